/- Runs: the document's answers are the program's. Conditions: as each lemma says. -/
import Derived.Test.YtcknljndogbbhaaRn3
namespace Go.Proofs.Ytcknljndogbbhaa.Rn
open Go.RowKit Go.Proofs.Ytcknljndogbbhaa Go.Proofs.Ytcknljndogbbhaa.Bm Go.Proofs.Ytcknljndogbbhaa.PAll Go.Proofs.YtcknljndogbbhaaW.PrintWords Go.Proofs.YtcknljndogbbhaaW.PrintLast Go.Proofs.YtcknljndogbbhaaW.PrintMore
set_option linter.unusedVariables false
def conv (r : S60) : S64 := ⟨r.f0, r.f1⟩
theorem used_run (m : List Bool) (hm : m.length ≤ 65534) (k : Nat) (x3 : List S64) : ∀ d p : Nat, p + d ≤ m.length → (∀ i, p ≤ i → i < p + d → m.getD i false = true) →
    cantleref11_Free.l0 (k + d) x3 m (m.length : Int) (p : Int) = cantleref11_Free.l0 k x3 m (m.length : Int) ((p + d : Nat) : Int)
  | 0, p, _, _ => rfl
  | d + 1, p, h, hu => by
    have ih := used_run m hm k x3 d (p + 1) (by omega) (fun i h1 h2 => hu i (by omega) (by omega))
    rw [show k + (d + 1) = (k + d) + 1 from by omega]
    simp only [cantleref11_Free.l0]
    rw [if_pos (by omega), if_pos (by omega), if_pos (by omega), rdOf_nat, hu p (Nat.le_refl _) (by omega), if_pos rfl, wsucc p (by omega), ih]
    try (congr 1; omega)
theorem last_rd (ys : List S64) (r : S64) (h : ys.length ≤ 100000) : wrap64 (((ys ++ [r]).length : Int) - 1) = (ys.length : Int) ∧ rd_T64 (ys ++ [r]) (ys.length : Int) = r := by
  refine ⟨by rw [Math.w64 (by rw [List.length_append]; simp; try omega) (by rw [List.length_append]; simp; try omega)]; simp, ?_⟩
  unfold rd_T64; simp
theorem free_run (m : List Bool) (hm : m.length ≤ 65534) (k : Nat) (ys : List S64) (hy : ys.length ≤ 100000) (s : Nat) : ∀ d j : Nat, s + j + d ≤ m.length → (∀ i, s + j ≤ i → i < s + j + d → m.getD i false = false) →
    cantleref11_Free.l0 (k + d) (ys ++ [⟨(s : Int), (j : Int)⟩]) m (m.length : Int) ((s + j : Nat) : Int) = cantleref11_Free.l0 k (ys ++ [⟨(s : Int), ((j + d : Nat) : Int)⟩]) m (m.length : Int) ((s + j + d : Nat) : Int)
  | 0, j, _, _ => rfl
  | d + 1, j, h, hu => by
    have ih := free_run m hm k ys hy s d (j + 1) (by omega) (fun i h1 h2 => hu i (by omega) (by omega))
    obtain ⟨e1, e2⟩ := last_rd ys ⟨(s : Int), (j : Int)⟩ hy
    rw [show k + (d + 1) = (k + d) + 1 from by omega]
    simp only [cantleref11_Free.l0]
    rw [if_pos (by omega), if_pos (by omega), if_pos (by omega), rdOf_nat, hu (s + j) (Nat.le_refl _) (by omega), if_neg (by simp), if_pos (by simp; try omega), e1, e2, if_pos (by omega), if_pos (by simp; try omega), wsucc (s + j) (by omega)]
    dsimp only
    rw [Math.w64 (n := (s : Int) + (j : Int)) (by omega) (by omega), if_pos (by omega), Math.w64 (n := (j : Int) + 1) (by omega) (by omega), Int.toNat_natCast]
    have eset : (ys ++ [(⟨(s : Int), (j : Int)⟩ : S64)]).set ys.length ⟨(s : Int), (j : Int) + 1⟩ = ys ++ [⟨(s : Int), ((j + 1 : Nat) : Int)⟩] := by simp
    rw [eset]
    rw [show s + j + 1 = s + (j + 1) from by omega, ih]
    congr 1
    · congr 3; omega
    · omega
/-- Where the runs so far end. -/
def Ends (m : List Bool) (x3 : List S64) (p : Nat) : Prop := x3.length ≤ 70000 ∧ ∀ (ys : List S64) (r : S64), x3 = ys ++ [r] → 0 ≤ r.f0 + r.f1 ∧ r.f0 + r.f1 ≤ (p : Int) ∧ (r.f0 + r.f1 = (p : Int) → p < m.length → m.getD p false = true)
theorem start_run (m : List Bool) (hm : m.length ≤ 65534) (k : Nat) (x3 : List S64) (p s : Nat) (he : Ends m x3 p) (hps : p ≤ s) (hs : s < m.length) (hf : m.getD s false = false) :
    cantleref11_Free.l0 (k + 1) x3 m (m.length : Int) (s : Int) = cantleref11_Free.l0 k (x3 ++ [⟨(s : Int), 1⟩]) m (m.length : Int) ((s + 1 : Nat) : Int) := by
  have hlen := he.1
  simp only [cantleref11_Free.l0]
  rw [if_pos (by omega), if_pos (by omega), if_pos (by omega), rdOf_nat, hf, if_neg (by simp), wsucc s (by omega)]
  rcases List.eq_nil_or_concat x3 with rfl | ⟨ys, r, rfl⟩
  · rw [if_neg (by simp), if_pos (by simp)]
  · rw [List.concat_eq_append] at he hlen ⊢
    obtain ⟨h0, h1, h2⟩ := he.2 ys r rfl
    have hy : ys.length ≤ 100000 := by simp at hlen; omega
    obtain ⟨e1, e2⟩ := last_rd ys r hy
    have hne : r.f0 + r.f1 ≠ (s : Int) := by
      intro e
      have hpe : r.f0 + r.f1 = (p : Int) := by omega
      have : p = s := by omega
      subst this
      rw [h2 hpe hs] at hf; cases hf
    rw [if_pos (by simp; try omega), e1, e2, if_pos (by omega), if_pos (by simp; try omega), Math.w64 (n := r.f0 + r.f1) (by omega) (by omega), if_neg hne, if_pos (by simp; try omega)]
theorem free_ev (m : List Bool) (hm : m.length ≤ 65534) : ∀ (d p : Nat) (x3 : List S64) (k : Nat), p ≤ m.length → m.length < d + p → x3.length + (m.length - p) ≤ 70000 → Ends m x3 p →
    cantleref11_Free.l0 (k + (m.length - p) + 1) x3 m (m.length : Int) (p : Int) = some (x3 ++ (freeR m d p).map conv)
  | 0, p, x3, k, hp, hd, _, _ => by omega
  | d + 1, p, x3, k, hp, hd, hx, he => by
    rcases freeR_step m d p hp with ⟨_, h2, h3⟩ | ⟨s, e, h1, h2, h3, _, h5, h6, h7, h8⟩
    · rw [h2, List.map_nil, List.append_nil, show k + (m.length - p) + 1 = (k + 1) + (m.length - p) from by omega, used_run m hm (k + 1) x3 (m.length - p) p (by omega) (fun i a b => h3 i a (by omega)),
        show p + (m.length - p) = m.length from by omega]
      simp only [cantleref11_Free.l0]
      rw [if_neg (by omega)]
    · have ih := free_ev m hm d e (x3 ++ [⟨(s : Int), (e : Int) - s⟩]) k h3 (by omega) (by simp; omega) (by
        refine ⟨by simp; omega, fun ys r hr => ?_⟩
        have := List.append_inj_right' hr rfl
        simp only [List.cons.injEq, and_true] at this
        subst this
        refine ⟨?_, ?_, fun _ hl => ?_⟩
        · show 0 ≤ (s : Int) + ((e : Int) - s); omega
        · show (s : Int) + ((e : Int) - s) ≤ e; omega
        · rcases h6 with ⟨_, h⟩ | ⟨_, _, h⟩
          · omega
          · exact h)
      have hst := start_run m hm (k + (m.length - e) + 1 + (e - s - 1)) x3 p s he h1 (by omega) (h8 s (Nat.le_refl _) h2)
      have hfr := free_run m hm (k + (m.length - e) + 1) x3 (by have := he.1; omega) s (e - s - 1) 1 (by omega) (fun i a b => h8 i (by omega) (by omega))
      rw [h5, show k + (m.length - p) + 1 = (k + (m.length - e) + 1 + (e - s - 1) + 1) + (s - p) from by omega, used_run m hm _ x3 (s - p) p (by omega) (fun i a b => h7 i a (by omega)),
        show p + (s - p) = s from by omega, hst]
      have e1 : ((1 : Nat) : Int) = (1 : Int) := rfl
      rw [e1] at hfr
      rw [hfr, show s + 1 + (e - s - 1) = e from by omega, show ((1 + (e - s - 1) : Nat) : Int) = (e : Int) - s from by omega, ih]
      simp [conv]
theorem free_f (m : List Bool) (hm : m.length ≤ 65534) (k : Nat) (hk : m.length < k) : cantleref11_Free.f k m = some ((runsOf m).map conv) := by
  unfold cantleref11_Free.f runsOf
  have := free_ev m hm (m.length + 1) 0 [] (k - m.length - 1) (Nat.zero_le _) (by omega) (by simp; omega) ⟨by simp, fun ys r h => by simp at h⟩
  rw [show k - m.length - 1 + (m.length - 0) + 1 = k from by omega] at this
  simpa using this
theorem fit_ev (c : Int) (rs : List S60) (hl : rs.length ≤ 70000) : ∀ d k i : Nat, i + d = rs.length → d < k → cantleref11_Fit.l0 k c (rs.map conv) ((rs.map conv).length : Int) (i : Int) = some (findFit c (rs.drop i))
  | 0, k, i, h, hk => by
    obtain ⟨k, rfl⟩ : ∃ x, k = x + 1 := ⟨k - 1, by omega⟩
    simp only [cantleref11_Fit.l0]
    rw [if_neg (by simp; omega), List.drop_of_length_le (by omega)]; rfl
  | d + 1, k, i, h, hk => by
    obtain ⟨k, rfl⟩ : ∃ x, k = x + 1 := ⟨k - 1, by omega⟩
    have hi : i < rs.length := by omega
    have e : rd_T64 (rs.map conv) (i : Int) = conv rs[i] := by unfold rd_T64; simp [List.getD_eq_getElem?_getD, hi]
    have e1 : (conv rs[i]).f1 = rs[i].f1 := rfl
    have e0 : (conv rs[i]).f0 = rs[i].f0 := rfl
    simp only [cantleref11_Fit.l0]
    rw [if_pos (by simp; omega), if_pos (by omega), if_pos (by simp; omega), e, e1, wsucc i (by omega), List.drop_eq_getElem_cons hi]
    by_cases hc : c ≤ rs[i].f1
    · rw [if_pos (show rs[i].f1 ≥ c from hc)]; unfold findFit; rw [if_pos hc]; rfl
    · rw [if_neg (show ¬ rs[i].f1 ≥ c from hc)]; unfold findFit; rw [if_neg hc]
      exact fit_ev c rs hl d k (i + 1) (by omega) (by omega)
theorem runs_few (m : List Bool) (hm : m.length ≤ 65534) : (runsOf m).length ≤ 65535 := by
  have : (runsOf m).length ≤ m.length + 1 := freeR_length m _ _
  omega
theorem fit_f (m : List Bool) (hm : m.length ≤ 65534) (c : Int) (k : Nat) (hk : 70000 < k) : cantleref11_Fit.f k m c = some (fitOf m c) := by
  unfold cantleref11_Fit.f fitOf
  split
  · rfl
  · rw [free_f m hm k (by omega)]
    have hl := runs_few m hm
    exact fit_ev c (runsOf m) (by omega) (runsOf m).length k 0 (by omega) (by omega)
theorem rsame_ev (rs : List S60) (hl : rs.length ≤ 70000) : ∀ d k i : Nat, i + d = rs.length → d < k → cantlelaw11_same.l0 k rs (rs.map conv) (rs.length : Int) (i : Int) = some true
  | 0, k, i, h, hk => by
    obtain ⟨k, rfl⟩ : ∃ x, k = x + 1 := ⟨k - 1, by omega⟩
    simp only [cantlelaw11_same.l0]
    rw [if_neg (by omega)]
  | d + 1, k, i, h, hk => by
    obtain ⟨k, rfl⟩ : ∃ x, k = x + 1 := ⟨k - 1, by omega⟩
    have hi : i < rs.length := by omega
    have e : rd_T64 (rs.map conv) (i : Int) = conv rs[i] := by unfold rd_T64; simp [List.getD_eq_getElem?_getD, hi]
    have e2 : rd_T60 rs (i : Int) = rs[i] := by unfold rd_T60; simp [List.getD_eq_getElem?_getD, hi]
    simp only [cantlelaw11_same.l0]
    rw [if_pos (by omega), if_pos (by omega), if_pos (by omega), if_pos (by simp; omega), e, e2, wsucc i (by omega), if_neg (by simp [conv])]
    exact rsame_ev rs hl d k (i + 1) (by omega) (by omega)
theorem rsame_f (rs : List S60) (hl : rs.length ≤ 70000) (k : Nat) (hk : rs.length < k) : cantlelaw11_same.f k rs (rs.map conv) = some true := by
  unfold cantlelaw11_same.f
  rw [if_pos (by simp)]
  exact rsame_ev rs hl rs.length k 0 (by omega) hk
/-- The blocks of runs. -/
def sumR (rs : List S60) : Int := (rs.map fun r => r.f1).sum
theorem sumR_snoc (rs : List S60) (r : S60) : sumR (rs ++ [r]) = sumR rs + r.f1 := by simp [sumR]
theorem total_ev (rs : List S60) (hl : rs.length ≤ 70000) (hb : ∀ r ∈ rs, 0 ≤ r.f1 ∧ r.f1 ≤ 70000) : ∀ d k i : Nat, i + d = rs.length → d < k → run_Total.l0 k (sumR (rs.take i)) rs (rs.length : Int) (i : Int) = some (sumR rs)
  | 0, k, i, h, hk => by
    obtain ⟨k, rfl⟩ : ∃ x, k = x + 1 := ⟨k - 1, by omega⟩
    simp only [run_Total.l0]
    rw [if_neg (by omega), List.take_of_length_le (by omega)]
  | d + 1, k, i, h, hk => by
    obtain ⟨k, rfl⟩ : ∃ x, k = x + 1 := ⟨k - 1, by omega⟩
    have hi : i < rs.length := by omega
    have ih := total_ev rs hl hb d k (i + 1) (by omega) (by omega)
    have hbi := hb rs[i] (List.getElem_mem _)
    have bd : ∀ j, j ≤ rs.length → 0 ≤ sumR (rs.take j) ∧ sumR (rs.take j) ≤ 70000 * (j : Int) := by
      intro j
      induction j with
      | zero => intro _; simp [sumR]
      | succ j ihj =>
        intro hj
        have := ihj (by omega)
        have hbj := hb (rs[j]'(by omega)) (List.getElem_mem _)
        rw [List.take_succ_eq_append_getElem (by omega), sumR_snoc]; omega
    have hbd := bd i (by omega)
    have e2 : rd_T60 rs (i : Int) = rs[i] := by unfold rd_T60; simp [List.getD_eq_getElem?_getD, hi]
    rw [List.take_succ_eq_append_getElem hi, sumR_snoc] at ih
    simp only [run_Total.l0]
    have emx : mx 0 rs[i].f1 = rs[i].f1 := by unfold mx; split <;> omega
    rw [if_pos (by omega), if_pos (by omega), if_pos (by omega), e2, emx, wsucc i (by omega), Math.w64 (n := sumR (rs.take i) + rs[i].f1) (by omega) (by omega)]
    exact ih
theorem total_f (rs : List S60) (hl : rs.length ≤ 70000) (hb : ∀ r ∈ rs, 0 ≤ r.f1 ∧ r.f1 ≤ 70000) (k : Nat) (hk : rs.length < k) : run_Total.f k rs = some (sumR rs) := by
  unfold run_Total.f
  have := total_ev rs hl hb rs.length k 0 (by omega) hk
  simpa [sumR] using this
theorem sum_full {f : Nat → Bool} (p q : Nat) (h : p ≤ q) (hz : ∀ i, p ≤ i → i < q → f i = true) : sumB f q = sumB f p + (q - p) := by
  obtain ⟨d, rfl⟩ : ∃ d, q = p + d := ⟨q - p, by omega⟩
  rw [sumB_add, show p + d - p = d from by omega]
  congr 1
  have : ∀ e, e ≤ d → sumB (fun i => f (p + i)) e = e := by
    intro e
    induction e with
    | zero => intro _; rfl
    | succ e ih => intro he; simp only [sumB]; rw [ih (by omega), hz (p + e) (by omega) (by omega)]; rfl
  exact this d (Nat.le_refl _)
theorem sumR_free (m : List Bool) : ∀ d p, p ≤ m.length → m.length < d + p → sumR (freeR m d p) + (sumB (isU m false) p : Nat) = (sumB (isU m false) m.length : Nat)
  | 0, p, hp, hd => by omega
  | d + 1, p, hp, hd => by
    rcases freeR_step m d p hp with ⟨_, h2, h3⟩ | ⟨s, e, h1, h2, h3, _, h5, _, h7, h8⟩
    · rw [h2]
      have : sumB (isU m false) m.length = sumB (isU m false) p := sum_flat p m.length hp (fun i a b => by unfold isU; rw [h3 i a b]; rfl)
      simp [sumR, this]
    · have ih := sumR_free m d e h3 (by omega)
      have q1 : sumB (isU m false) s = sumB (isU m false) p := sum_flat p s h1 (fun i a b => by unfold isU; rw [h7 i a b]; rfl)
      have q2 : sumB (isU m false) e = sumB (isU m false) s + (e - s) := sum_full s e (by omega) (fun i a b => by unfold isU; rw [h8 i a b]; rfl)
      rw [h5]
      have : sumR ((⟨(s : Int), (e : Int) - s⟩ : S60) :: freeR m d e) = ((e : Int) - s) + sumR (freeR m d e) := by simp [sumR]
      rw [this]; omega
theorem sumR_runs (m : List Bool) : sumR (runsOf m) = (m.length : Int) - (m.count true : Nat) := by
  have h := sumR_free m (m.length + 1) 0 (Nat.zero_le _) (by omega)
  have h2 := sum_false m
  have h3 := List.count_le_length (a := true) (l := m)
  have h0 : sumB (isU m false) 0 = 0 := rfl
  unfold runsOf
  omega
end Go.Proofs.Ytcknljndogbbhaa.Rn
