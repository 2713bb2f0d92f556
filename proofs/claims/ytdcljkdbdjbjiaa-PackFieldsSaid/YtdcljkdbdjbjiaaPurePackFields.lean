/- The law PackFields of the pure program: of any fields the word, or that there is none, is the document's; it is split into them. Conditions: the numbers are of their kinds. -/
import Derived.Test.YtdcljkdbdjbjiaaPPackFieldsx3
import Derived.Test.YtdcljkdbdjbjiaaMath
namespace Go.Proofs.Ytdcljkdbdjbjiaa.Pure
open Go.RowKit Go.Proofs.Ytdcljkdbdjbjiaa.PPackFields Go.Proofs.YtdcljkdbdjbjiaaW.PrintWords Go.Proofs.YtdcljkdbdjbjiaaW.PrintLast Go.Proofs.Ytdcljkdbdjbjiaa.Math
/-! ### pack.Split, by numbers -/
def sp : Int → Int → List Int → Option (List Int)
  | x, _, [] => if x = 0 then some [] else none
  | x, left, w :: ws => if w < 1 ∨ w > left then none else (sp (x / 2 ^ w.toNat) (left - w) ws).map (x % 2 ^ w.toNat :: ·)
def spR (out : List Int) : Option (List Int) → List Int × Bool
  | some r => (out ++ r, true)
  | none => ([], false)
theorem spR_map (out : List Int) (a : Int) : ∀ o : Option (List Int), spR out (o.map (a :: ·)) = spR (out ++ [a]) o
  | some r => by simp [spR]
  | none => rfl
theorem sp_length : ∀ (ws : List Int) (x left : Int) (r : List Int), sp x left ws = some r → r.length = ws.length
  | [], x, left, r, h => by
    simp only [sp] at h; split at h
    · cases h; rfl
    · cases h
  | w :: ws, x, left, r, h => by
    simp only [sp] at h; split at h
    · cases h
    · obtain ⟨q, hq, rfl⟩ := Option.map_eq_some_iff.mp h
      simp [sp_length ws _ _ q hq]
theorem split_ev : ∀ (ws pre : List Int) (x left : Int) (out : List Int), 0 ≤ x → x < 18446744073709551616 → 0 ≤ left → left ≤ 64 → pre.length + ws.length ≤ 1000000 → out.length ≤ pre.length →
    Ev (fun k => pack_Split.l0 k x out left (pre ++ ws) ((pre ++ ws).length : Int) (pre.length : Int)) (spR out (sp x left ws))
  | [], pre, x, left, out, h0, h1, hl0, hl, hb, ho => by
    refine Ev.step (f := fun _ => some (spR out (sp x left []))) (fun k => ?_) (Ev.now _)
    simp only [pack_Split.l0, List.append_nil]
    rw [if_neg (by omega)]
    simp only [sp]
    split <;> simp [spR]
  | w :: ws, pre, x, left, out, h0, h1, hl0, hl, hb, ho => by
    have hlen : (pre ++ w :: ws).length = pre.length + ws.length + 1 := by simp; omega
    simp only [List.length_cons] at hb
    by_cases hw : w < 1 ∨ w > left
    · refine Ev.step (f := fun _ => some (spR out (sp x left (w :: ws)))) (fun k => ?_) (Ev.now _)
      simp only [pack_Split.l0, rd_mid, hlen]
      rw [if_pos (by omega), if_pos (by omega), if_pos (by omega)]
      simp only [sp, if_pos hw, spR]
      by_cases hw1 : w < 1
      · rw [if_pos hw1]
      · rw [if_neg hw1, if_pos (by omega)]
    · have ih := split_ev ws (pre ++ [w]) (x / 2 ^ w.toNat) (left - w) (out ++ [x % 2 ^ w.toNat])
        (Int.ediv_nonneg h0 (Int.le_of_lt (pow_pos' _))) (Int.lt_of_le_of_lt (Int.ediv_le_self _ h0) h1) (by omega) (by omega) (by simp; omega) (by simp; omega)
      have e1 : pre ++ [w] ++ ws = pre ++ w :: ws := by simp
      have e2 : ((pre ++ [w]).length : Int) = (pre.length : Int) + 1 := by simp
      rw [e1, e2] at ih
      simp only [sp, if_neg hw, spR_map]
      refine Ev.step (fun k => ?_) ih
      simp only [pack_Split.l0, rd_mid, hlen]
      rw [if_pos (by omega), if_pos (by omega), if_pos (by omega), if_neg (by omega), if_neg (by omega), w64 (n := 64 - w) (by omega) (by omega), if_pos (by omega), if_pos (by omega), if_pos (by omega), shr_u64 x w (by omega) (by omega), cut_low x w (by omega) (by omega), w64 (n := left - w) (by omega) (by omega), w64 (n := (pre.length : Int) + 1) (by omega) (by omega)]
theorem split_f (x : Int) (ws : List Int) (h0 : 0 ≤ x) (h1 : x < 18446744073709551616) (hb : ws.length ≤ 1000000) :
    Ev (fun k => pack_Split.f k x ws) (spR [] (sp x 64 ws)) := split_ev ws [] x 64 [] h0 h1 (by omega) (by omega) (by simpa using hb) (by simp)
/-! ### the document's Power and Split -/
theorem power_ev (n : Int) (hn : n ≤ 64) : ∀ (d : Nat) (i : Int), 0 ≤ i → i ≤ n → n - i = d → ∀ x : Int, x = 2 ^ i.toNat → n < 64 → Ev (fun k => cantleref03_Power.l0 k x n i) (2 ^ n.toNat)
  | 0, i, h0, hi, hd, x, hx, _ => by
    have : i = n := by omega
    subst this; subst hx
    refine Ev.step (f := fun _ => some _) (fun k => ?_) (Ev.now _)
    simp only [cantleref03_Power.l0]; rw [if_neg (by omega)]
  | d + 1, i, h0, hi, hd, x, hx, hn' => by
    have ih := power_ev n hn d (i + 1) (by omega) (by omega) (by omega) (2 * x) (by subst hx; rw [show (i + 1).toNat = i.toNat + 1 from by omega, Int.pow_succ, Int.mul_comm]) hn'
    refine Ev.step (fun k => ?_) ih
    have hx63 : x < 2 ^ 63 := by subst hx; exact pow_lt' (by omega)
    have hx0 : 0 < x := by subst hx; exact pow_pos' _
    simp only [cantleref03_Power.l0]; rw [if_pos (by omega), u64_fit (by omega) (by omega), w64 (n := i + 1) (by omega) (by omega)]
theorem power_f (n : Int) (h0 : 0 ≤ n) (hn : n < 64) : Ev (fun k => cantleref03_Power.f k n) (2 ^ n.toNat) :=
  power_ev n (by omega) n.toNat 0 (by omega) h0 (by omega) 1 rfl hn
/-! ### cantlelaw03.Same -/
theorem same_ev : ∀ (a b pa pb : List Int), a.length = b.length → pa.length = pb.length → pa.length + a.length ≤ 1000000000 →
    Ev (fun k => cantlelaw03_Same.l0 k (pa ++ a) (pb ++ b) ((pa ++ a).length : Int) (pa.length : Int)) (decide (a = b))
  | [], [], pa, pb, _, hp, hb => by
    refine Ev.step (f := fun _ => some _) (fun k => ?_) (Ev.now _)
    simp only [cantlelaw03_Same.l0, List.append_nil]; rw [if_neg (by omega)]; simp
  | x :: a, y :: b, pa, pb, hl, hp, hb => by
    have h1 : (pa ++ x :: a).length = pa.length + a.length + 1 := by simp; omega
    have h2 : (pb ++ y :: b).length = pa.length + a.length + 1 := by simp at hl ⊢; omega
    simp only [List.length_cons] at hb hl
    by_cases hxy : x = y
    · have ih := same_ev a b (pa ++ [x]) (pb ++ [y]) (by omega) (by simp [hp]) (by simp; omega)
      have e1 : pa ++ [x] ++ a = pa ++ x :: a := by simp
      have e1' : pb ++ [y] ++ b = pb ++ y :: b := by simp
      have e2 : ((pa ++ [x]).length : Int) = (pa.length : Int) + 1 := by simp
      rw [e1, e1', e2] at ih
      have ed : decide (x :: a = y :: b) = decide (a = b) := by subst hxy; simp
      rw [ed]
      refine Ev.step (fun k => ?_) ih
      simp only [cantlelaw03_Same.l0, h1, h2, rd_mid, rd_mid' hp]
      rw [if_pos (by omega), if_pos (by omega), if_pos (by omega), if_pos (by omega), if_pos hxy, w64 (n := (pa.length : Int) + 1) (by omega) (by omega)]
    · refine Ev.step (f := fun _ => some _) (fun k => ?_) (Ev.now _)
      simp only [cantlelaw03_Same.l0, h1, h2, rd_mid, rd_mid' hp]
      rw [if_pos (by omega), if_pos (by omega), if_pos (by omega), if_pos (by omega), if_neg hxy]
      simp [hxy]
theorem same_f (a b : List Int) (hb : a.length ≤ 1000000000) : Ev (fun k => cantlelaw03_Same.f k a b) (decide (a = b)) := by
  by_cases h : a.length = b.length
  · refine Ev.congr (fun k => ?_) (same_ev a b [] [] h rfl (by simpa using hb))
    unfold cantlelaw03_Same.f
    rw [if_pos (by omega)]; rfl
  · refine Ev.congr (f := fun _ => some _) (fun k => ?_) (Ev.now _)
    unfold cantlelaw03_Same.f
    rw [if_neg (by omega)]
    simp only [Option.some.injEq]
    symm; rw [decide_eq_false_iff_not]; intro e; subst e; exact h rfl
/-! ### pack.Pack, by numbers -/
def pk : Int → Int → List S28 → Option Int
  | acc, _, [] => some acc
  | acc, at_, f :: fs => if f.f0 < 1 ∨ f.f0 > 64 - at_ ∨ f.f1 ≥ 2 ^ f.f0.toNat then none else pk (acc + f.f1 * 2 ^ at_.toNat) (at_ + f.f0) fs
def pkR : Option Int → Int × Bool
  | some r => (r, true)
  | none => (0, false)
def fit (f : S28) : Prop := (-9223372036854775808 ≤ f.f0 ∧ f.f0 ≤ 9223372036854775807) ∧ 0 ≤ f.f1 ∧ f.f1 < 18446744073709551616
theorem may_is (f : S28) (h : fit f) : pack_Field_may.f f.f0 f.f1 = some (decide (1 ≤ f.f0 ∧ f.f0 ≤ 64 ∧ f.f1 < 2 ^ f.f0.toNat)) := by
  obtain ⟨⟨_, _⟩, h0, h1⟩ := h
  unfold pack_Field_may.f
  by_cases a : 1 ≤ f.f0
  · rw [if_pos (by omega)]
    by_cases b : f.f0 ≤ 64
    · rw [if_pos b]
      by_cases c : f.f0 = 64
      · rw [if_pos c]; rw [decide_eq_true]; refine ⟨a, b, ?_⟩; rw [c]; exact h1
      · rw [if_neg c, if_pos (by omega), shr_u64 _ _ (by omega) (by omega)]
        have : (f.f1 / 2 ^ f.f0.toNat == 0) = decide (f.f1 < 2 ^ f.f0.toNat) := by
          rw [Bool.eq_iff_iff]; simp only [beq_iff_eq, decide_eq_true_eq]
          constructor
          · intro e
            rcases Int.lt_or_le f.f1 (2 ^ f.f0.toNat) with hlt | hle
            · exact hlt
            · have := Int.le_ediv_of_mul_le (pow_pos' f.f0.toNat) (by omega : 1 * 2 ^ f.f0.toNat ≤ f.f1); omega
          · intro e; exact Int.ediv_eq_zero_of_lt h0 e
        rw [this]; simp [a, b]
    · rw [if_neg b]; simp [b]
  · rw [if_neg (by omega)]; simp [a]
theorem rd28_mid (pre : List S28) (f : S28) (fs : List S28) : rd_T28 (pre ++ f :: fs) (pre.length : Int) = f := by unfold rd_T28; simp
theorem pack_ev : ∀ (fs pre : List S28) (acc at_ : Int), (∀ f ∈ fs, fit f) → 0 ≤ at_ → at_ ≤ 64 → 0 ≤ acc → acc < 2 ^ at_.toNat → pre.length + fs.length ≤ 1000000 →
    Ev (fun k => pack_Pack.l0 k acc at_ (pre ++ fs) ((pre ++ fs).length : Int) (pre.length : Int)) (pkR (pk acc at_ fs))
  | [], pre, acc, at_, hf, h0, h1, ha0, ha, hb => by
    refine Ev.step (f := fun _ => some _) (fun k => ?_) (Ev.now _)
    simp only [pack_Pack.l0, List.append_nil]; rw [if_neg (by omega)]; rfl
  | f :: fs, pre, acc, at_, hf, h0, h1, ha0, ha, hb => by
    have hlen : (pre ++ f :: fs).length = pre.length + fs.length + 1 := by simp; omega
    simp only [List.length_cons] at hb
    have hfit := hf f List.mem_cons_self
    have hmay := may_is f hfit
    have e64 : wrap64 (64 - at_) = 64 - at_ := w64 (by omega) (by omega)
    have ei : wrap64 ((pre.length : Int) + 1) = (pre.length : Int) + 1 := w64 (by omega) (by omega)
    by_cases hw : f.f0 < 1 ∨ f.f0 > 64 - at_ ∨ f.f1 ≥ 2 ^ f.f0.toNat
    · refine Ev.step (f := fun _ => some (pkR (pk acc at_ (f :: fs)))) (fun k => ?_) (Ev.now _)
      simp only [pack_Pack.l0, rd28_mid, hlen, hmay, Option.bind_some]
      rw [if_pos (by omega), if_pos (by omega), if_pos (by omega)]
      simp only [pk, if_pos hw, pkR]
      by_cases hm : 1 ≤ f.f0 ∧ f.f0 ≤ 64 ∧ f.f1 < 2 ^ f.f0.toNat
      · rw [decide_eq_true hm, if_pos rfl, e64, if_pos (by omega)]
      · rw [decide_eq_false hm]; rfl
    · obtain ⟨⟨_, _⟩, hv0, hv1⟩ := hfit
      have hv : f.f1 < 2 ^ f.f0.toNat := by omega
      have hsum : acc + f.f1 * 2 ^ at_.toNat < 2 ^ (at_ + f.f0).toNat := by
        have e : (at_ + f.f0).toNat = f.f0.toNat + at_.toNat := by omega
        rw [e, pow_add']
        have h3 : (f.f1 + 1) * 2 ^ at_.toNat ≤ 2 ^ f.f0.toNat * 2 ^ at_.toNat := Int.mul_le_mul_of_nonneg_right (by omega) (Int.le_of_lt (pow_pos' _))
        rw [Int.add_mul, Int.one_mul] at h3; omega
      have hle : (2 : Int) ^ (at_ + f.f0).toNat ≤ 2 ^ 64 := pow_le' (by omega)
      have hmul : 0 ≤ f.f1 * 2 ^ at_.toNat := Int.mul_nonneg hv0 (Int.le_of_lt (pow_pos' _))
      have ih := pack_ev fs (pre ++ [f]) (acc + f.f1 * 2 ^ at_.toNat) (at_ + f.f0) (fun g hg => hf g (List.mem_cons_of_mem _ hg)) (by omega) (by omega) (by omega) hsum (by simp; omega)
      have e1 : pre ++ [f] ++ fs = pre ++ f :: fs := by simp
      have e2 : ((pre ++ [f]).length : Int) = (pre.length : Int) + 1 := by simp
      rw [e1, e2] at ih
      simp only [pk, if_neg hw]
      refine Ev.step (fun k => ?_) ih
      have eo : Go.bits .or .u64 acc (shl .u64 f.f1 at_) = acc + f.f1 * 2 ^ at_.toNat := by
        rw [shl_u64_fit _ _ h0 h1 hv0 (by omega)]
        exact or_above acc f.f1 at_.toNat ha0 ha hv0 (by omega)
      have ea : wrap64 (at_ + f.f0) = at_ + f.f0 := w64 (by omega) (by omega)
      simp only [pack_Pack.l0, rd28_mid, hlen, hmay, Option.bind_some]
      rw [if_pos (by omega), if_pos (by omega), if_pos (by omega), if_pos (by rw [decide_eq_true]; exact ⟨by omega, by omega, hv⟩), e64, if_neg (by omega), if_pos (by omega), eo, ea, ei]
theorem pack_f (fs : List S28) (hf : ∀ f ∈ fs, fit f) (hb : fs.length ≤ 1000000) : Ev (fun k => pack_Pack.f k fs) (pkR (pk 0 0 fs)) :=
  pack_ev fs [] 0 0 hf (by omega) (by omega) (by omega) (by simp) (by simpa using hb)
/-! ### the document's Pack -/
theorem rd_get {xs : List Int} {i : Nat} {v : Int} (h : xs[i]? = some v) : rd xs (i : Int) = v := by
  unfold rd; rw [Int.toNat_natCast, List.getD_eq_getElem?_getD, h]; rfl
theorem refpack_ev (vs : List Int) : ∀ (fs pre : List S28) (acc at_ : Int), (∀ f ∈ fs, fit f) → vs = (pre ++ fs).map S28.f1 → 0 ≤ at_ → at_ ≤ 64 → 0 ≤ acc → acc < 2 ^ at_.toNat → pre.length + fs.length ≤ 1000000 →
    Ev (fun k => cantleref03_Pack.l0 k vs acc at_ ((pre ++ fs).map S28.f0) (((pre ++ fs).map S28.f0).length : Int) (pre.length : Int)) (pkR (pk acc at_ fs))
  | [], pre, acc, at_, hf, hv, h0, h1, ha0, ha, hb => by
    refine Ev.step (f := fun _ => some _) (fun k => ?_) (Ev.now _)
    simp only [cantleref03_Pack.l0, List.append_nil, List.length_map]; rw [if_neg (by omega)]; rfl
  | f :: fs, pre, acc, at_, hf, hv, h0, h1, ha0, ha, hb => by
    have hlen : ((pre ++ f :: fs).map S28.f0).length = pre.length + fs.length + 1 := by simp; omega
    have hlv : vs.length = pre.length + fs.length + 1 := by rw [hv]; simp; omega
    simp only [List.length_cons] at hb
    obtain ⟨⟨w0, w1⟩, v0, v1⟩ := hf f List.mem_cons_self
    have r0 : rd ((pre ++ f :: fs).map S28.f0) (pre.length : Int) = f.f0 := rd_get (by simp)
    have r1 : rd vs (pre.length : Int) = f.f1 := rd_get (by rw [hv]; simp)
    have e1 : pre ++ [f] ++ fs = pre ++ f :: fs := by simp
    have e2 : ((pre ++ [f]).length : Int) = wrap64 ((pre.length : Int) + 1) := by rw [w64 (n := (pre.length : Int) + 1) (by omega) (by omega)]; simp
    have go : ∀ c : Bool, c = decide (f.f0 < 1 ∨ f.f0 > 64 - at_) → Ev (fun k => cantleref03_Pack.j1 k vs acc at_ (pre.length : Int) f.f0 ((pre ++ f :: fs).map S28.f0) (((pre ++ f :: fs).map S28.f0).length : Int) (pre.length : Int) c) (pkR (pk acc at_ (f :: fs))) := by
      intro c hc
      by_cases hw : f.f0 < 1 ∨ f.f0 > 64 - at_
      · rw [hc, decide_eq_true hw]
        refine Ev.step (f := fun _ => some _) (fun k => ?_) (Ev.now _)
        simp only [cantleref03_Pack.j1, if_true, pk]
        rw [if_pos (by omega)]; rfl
      · rw [hc, decide_eq_false hw]
        have j2 : ∀ d : Bool, d = decide (f.f1 ≥ 2 ^ f.f0.toNat) → Ev (fun k => cantleref03_Pack.j2 k vs acc at_ (pre.length : Int) f.f0 ((pre ++ f :: fs).map S28.f0) (((pre ++ f :: fs).map S28.f0).length : Int) (pre.length : Int) d) (pkR (pk acc at_ (f :: fs))) := by
          intro d hd
          by_cases hv2 : f.f1 ≥ 2 ^ f.f0.toNat
          · rw [hd, decide_eq_true hv2]
            refine Ev.step (f := fun _ => some _) (fun k => ?_) (Ev.now _)
            simp only [cantleref03_Pack.j2, if_true, pk]
            rw [if_pos (by omega)]; rfl
          · rw [hd, decide_eq_false hv2]
            have hsum : acc + f.f1 * 2 ^ at_.toNat < 2 ^ (at_ + f.f0).toNat := by
              have e : (at_ + f.f0).toNat = f.f0.toNat + at_.toNat := by omega
              rw [e, pow_add']
              have h3 : (f.f1 + 1) * 2 ^ at_.toNat ≤ 2 ^ f.f0.toNat * 2 ^ at_.toNat := Int.mul_le_mul_of_nonneg_right (by omega) (Int.le_of_lt (pow_pos' _))
              rw [Int.add_mul, Int.one_mul] at h3; omega
            have hle : (2 : Int) ^ (at_ + f.f0).toNat ≤ 2 ^ 64 := pow_le' (by omega)
            have hmul : 0 ≤ f.f1 * 2 ^ at_.toNat := Int.mul_nonneg v0 (Int.le_of_lt (pow_pos' _))
            have ih := refpack_ev vs fs (pre ++ [f]) (acc + f.f1 * 2 ^ at_.toNat) (at_ + f.f0) (fun g hg => hf g (List.mem_cons_of_mem _ hg)) (by rw [e1]; exact hv) (by omega) (by omega) (by omega) hsum (by simp; omega)
            rw [e1, e2] at ih
            simp only [pk, if_neg (show ¬ (f.f0 < 1 ∨ f.f0 > 64 - at_ ∨ f.f1 ≥ 2 ^ f.f0.toNat) from by omega)]
            have hp := power_f at_ h0 (by omega)
            refine Ev.step (f := fun k => (cantleref03_Power.f k at_).bind fun t127 => (cantleref03_Pack.l0 k vs (IntKind.u64.wrap (acc + (IntKind.u64.wrap (f.f1 * t127)))) (wrap64 (at_ + f.f0)) ((pre ++ f :: fs).map S28.f0) (((pre ++ f :: fs).map S28.f0).length : Int) (wrap64 ((pre.length : Int) + 1)))) (fun k => ?_) (Ev.bind hp ?_)
            · simp only [cantleref03_Pack.j2, r1, hlv]
              rw [if_neg (by simp), if_pos (by omega), if_pos (by omega), if_pos (by omega)]
            · have q1 : IntKind.u64.wrap (f.f1 * 2 ^ at_.toNat) = f.f1 * 2 ^ at_.toNat := u64_fit hmul (by omega)
              have q2 : IntKind.u64.wrap (acc + f.f1 * 2 ^ at_.toNat) = acc + f.f1 * 2 ^ at_.toNat := u64_fit (by omega) (by omega)
              rw [q1, q2, w64 (n := at_ + f.f0) (by omega) (by omega)]
              exact ih
        by_cases h64 : f.f0 < 64
        · have hp := power_f f.f0 (by omega) h64
          refine Ev.step (f := fun k => (cantleref03_Power.f k f.f0).bind fun t125 => (cantleref03_Pack.j2 k vs acc at_ (pre.length : Int) f.f0 ((pre ++ f :: fs).map S28.f0) (((pre ++ f :: fs).map S28.f0).length : Int) (pre.length : Int) (decide (f.f1 ≥ t125)))) (fun k => ?_) (Ev.bind hp (j2 _ rfl))
          simp only [cantleref03_Pack.j1, r1, hlv]
          rw [if_neg (by simp), if_pos h64, if_pos (by omega), if_pos (by omega)]
        · refine Ev.step (fun k => ?_) (j2 false (by
            symm; rw [decide_eq_false_iff_not]
            have : f.f0 = 64 := by omega
            rw [this]
            have : (2 : Int) ^ (64 : Int).toNat = 18446744073709551616 := rfl
            omega))
          simp only [cantleref03_Pack.j1]
          rw [if_neg (by simp), if_neg h64]
    by_cases hw1 : f.f0 < 1
    · refine Ev.step (fun k => ?_) (go true (by rw [decide_eq_true (Or.inl hw1)]))
      simp only [cantleref03_Pack.l0, r0, hlen]
      rw [if_pos (by omega), if_pos (by omega), if_pos (by omega), if_pos hw1]
    · refine Ev.step (fun k => ?_) (go (decide (f.f0 > 64 - at_)) (by rw [decide_eq_decide]; omega))
      simp only [cantleref03_Pack.l0, r0, hlen]
      rw [if_pos (by omega), if_pos (by omega), if_pos (by omega), if_neg hw1, w64 (n := 64 - at_) (by omega) (by omega)]
theorem refpack_f (fs : List S28) (hf : ∀ f ∈ fs, fit f) (hb : fs.length ≤ 1000000) : Ev (fun k => cantleref03_Pack.f k (fs.map S28.f0) (fs.map S28.f1)) (pkR (pk 0 0 fs)) :=
  refpack_ev (fs.map S28.f1) fs [] 0 0 hf rfl (by omega) (by omega) (by omega) (by simp) (by simpa using hb)
/-! ### what is packed is split -/
theorem pk_sp : ∀ (fs : List S28) (acc at_ y : Int), (∀ f ∈ fs, fit f) → 0 ≤ at_ → at_ ≤ 64 → pk acc at_ fs = some y → ∃ t, y = acc + t * 2 ^ at_.toNat ∧ 0 ≤ t ∧ t < 2 ^ (64 - at_).toNat ∧ sp t (64 - at_) (fs.map S28.f0) = some (fs.map S28.f1)
  | [], acc, at_, y, hf, h0, h1, h => by
    simp only [pk, Option.some.injEq] at h
    exact ⟨0, by omega, by omega, pow_pos' _, by simp [sp]⟩
  | f :: fs, acc, at_, y, hf, h0, h1, h => by
    simp only [pk] at h
    split at h
    · cases h
    · rename_i hw
      obtain ⟨_, v0, v1⟩ := hf f List.mem_cons_self
      obtain ⟨t, hy, ht0, ht1, hs⟩ := pk_sp fs _ _ y (fun g hg => hf g (List.mem_cons_of_mem _ hg)) (by omega) (by omega) h
      have e : (at_ + f.f0).toNat = f.f0.toNat + at_.toNat := by omega
      have e2 : (64 - at_).toNat = (64 - (at_ + f.f0)).toNat + f.f0.toNat := by omega
      have hp := pow_pos' f.f0.toNat
      have hv : f.f1 < 2 ^ f.f0.toNat := by omega
      refine ⟨f.f1 + t * 2 ^ f.f0.toNat, ?_, ?_, ?_, ?_⟩
      · rw [hy, e, pow_add', Int.add_mul, Int.mul_assoc, Int.add_assoc]
      · have := Int.mul_nonneg ht0 (Int.le_of_lt hp); omega
      · rw [e2, pow_add']
        have h3 : (t + 1) * 2 ^ f.f0.toNat ≤ 2 ^ (64 - (at_ + f.f0)).toNat * 2 ^ f.f0.toNat := Int.mul_le_mul_of_nonneg_right (by omega) (Int.le_of_lt hp)
        rw [Int.add_mul, Int.one_mul] at h3; omega
      · simp only [List.map_cons, sp]
        rw [if_neg (by omega), Int.add_mul_ediv_right _ _ (by omega), Int.add_mul_emod_self_right, Int.ediv_eq_zero_of_lt v0 hv, Int.emod_eq_of_lt v0 hv, Int.zero_add, show 64 - at_ - f.f0 = 64 - (at_ + f.f0) from by omega, hs]
        rfl
theorem fields_ev (all : List S28) (r : Bool) (h : Ev (fun k => (pack_Pack.f k all).bind fun bt140 => ((cantleref03_Pack.f k (all.map S28.f0) (all.map S28.f1)).bind fun bt142 => (if bt140.1 = bt142.1 then (cantlelaw03_PackFields.j2 k (all.map S28.f0) (all.map S28.f1) bt140.1 bt140.2 (bt140.2 != bt142.2)) else (cantlelaw03_PackFields.j2 k (all.map S28.f0) (all.map S28.f1) bt140.1 bt140.2 true)))) r) (hb : all.length ≤ 1000000) :
    ∀ (fs pre : List S28), all = pre ++ fs → Ev (fun k => cantlelaw03_PackFields.l0 k all (pre.map S28.f0) (pre.map S28.f1) all (all.length : Int) (pre.length : Int)) r
  | [], pre, he => by
    rw [List.append_nil] at he; subst he
    refine Ev.step (fun k => ?_) h
    simp only [cantlelaw03_PackFields.l0]; rw [if_neg (by omega)]
  | f :: fs, pre, he => by
    have hlen : all.length = pre.length + fs.length + 1 := by rw [he]; simp; omega
    have ih := fields_ev all r h hb fs (pre ++ [f]) (by rw [he]; simp)
    have r0 : rd_T28 all (pre.length : Int) = f := by rw [he]; exact rd28_mid _ _ _
    have e2 : ((pre ++ [f]).length : Int) = wrap64 ((pre.length : Int) + 1) := by rw [w64 (n := (pre.length : Int) + 1) (by omega) (by omega)]; simp
    rw [e2, List.map_append, List.map_append] at ih
    refine Ev.step (fun k => ?_) ih
    simp only [cantlelaw03_PackFields.l0, r0, List.length_map]
    rw [if_pos (by omega), if_pos (by omega), if_pos (by omega), if_pos (by omega), if_pos (by omega)]
    rfl
theorem lives_ev : Ev (fun k => cantlelaw03_Lives.f k) true := Ev.of cantlelaw03_Lives.mono (k := 20) (by decide +kernel)
/-- The pure statement, over any list of fields. -/
theorem PackFields (l : List S28) (hf : ∀ f ∈ l, fit f) : ∃ k, cantlelaw03_PackFields.f k l = some true := by
  refine Ev.rounds (r := true) ?_
  unfold cantlelaw03_PackFields.f
  refine Ev.bind lives_ev ?_
  simp only [if_true]
  by_cases hlen : (l.length : Int) > 70
  · rw [decide_eq_true hlen]
    refine Ev.step (f := fun k => (cantlelaw03_Lives.f k).bind fun t131 => some t131) (fun k => by simp only [cantlelaw03_PackFields.j0, if_true]) ?_
    exact Ev.bind lives_ev (Ev.now _)
  · rw [decide_eq_false hlen]
    have hb : l.length ≤ 1000000 := by omega
    refine Ev.step (f := fun k => cantlelaw03_PackFields.l0 k l [] [] l (l.length : Int) 0) (fun k => by simp only [cantlelaw03_PackFields.j0]; rw [if_neg (by simp)]) ?_
    refine fields_ev l true ?_ hb l [] (by simp)
    refine Ev.bind (pack_f l hf hb) (Ev.bind (refpack_f l hf hb) ?_)
    simp only [if_true, bne_self_eq_false]
    cases hp : pk 0 0 l with
    | none =>
      simp only [pkR]
      exact Ev.step (f := fun _ => some true) (fun k => by simp [cantlelaw03_PackFields.j2]) (Ev.now _)
    | some y =>
      obtain ⟨t, hy, ht0, ht1, hs⟩ := pk_sp l 0 0 y hf (by omega) (by omega) hp
      have e : y = t := by simpa using hy
      subst e
      have ht2 : y < 18446744073709551616 := ht1
      simp only [pkR]
      have h := split_f y (l.map S28.f0) ht0 ht2 (by simpa using hb)
      rw [show (64 : Int) - 0 = 64 from rfl] at hs
      rw [hs] at h
      refine Ev.step (f := fun k => (pack_Split.f k y (l.map S28.f0)).bind fun bt144 => (if bt144.2 = true then ((cantlelaw03_Same.f k bt144.1 (l.map S28.f1)).bind fun t148 => (some t148)) else (some false))) (fun k => by simp [cantlelaw03_PackFields.j2]) (Ev.bind h ?_)
      simp only [spR, List.nil_append, if_true]
      have := same_f (l.map S28.f1) (l.map S28.f1) (by simp; omega)
      rw [decide_eq_true rfl] at this
      exact Ev.bind this (Ev.now _)
end Go.Proofs.Ytdcljkdbdjbjiaa.Pure
