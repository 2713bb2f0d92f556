/- The document's Take answers as the program's. Conditions: as each lemma says. -/
import Derived.Test.YtcknljndogbbhaaRn5
import Derived.Test.YtcknljndogbbhaaTkA
namespace Go.Proofs.Ytcknljndogbbhaa.Rn
open Go.RowKit Go.Proofs.Ytcknljndogbbhaa Go.Proofs.Ytcknljndogbbhaa.Bm Go.Proofs.Ytcknljndogbbhaa.PAll Go.Proofs.YtcknljndogbbhaaW.PrintWords Go.Proofs.YtcknljndogbbhaaW.PrintLast Go.Proofs.YtcknljndogbbhaaW.PrintMore
set_option linter.unusedVariables false
/-- With fuel enough the answer is this. -/
def Ev {α : Type} (F : Nat → Option α) (r : α) : Prop := ∃ B, ∀ k, B ≤ k → F k = some r
theorem Ev.succ {α : Type} {F G : Nat → Option α} {r : α} (K0 : Nat) (h : ∀ k, K0 ≤ k → F (k + 1) = G k) (e : Ev G r) : Ev F r := by
  obtain ⟨B, hB⟩ := e
  refine ⟨B + K0 + 1, fun k hk => ?_⟩
  obtain ⟨k', rfl⟩ : ∃ x, k = x + 1 := ⟨k - 1, by omega⟩
  rw [h k' (by omega)]
  exact hB k' (by omega)
theorem Ev.done {α : Type} {F : Nat → Option α} {r : α} (K0 : Nat) (h : ∀ k, K0 ≤ k → F (k + 1) = some r) : Ev F r :=
  ⟨K0 + 1, fun k hk => by
    obtain ⟨k', rfl⟩ : ∃ x, k = x + 1 := ⟨k - 1, by omega⟩
    exact h k' (by omega)⟩
theorem count_ev (m : List Bool) (hm : m.length ≤ 65534) : ∀ d i k : Nat, i + d = m.length → d < k → cantleref10_Count.l0 k ((m.take i).count true : Nat) m (m.length : Int) (i : Int) = some ((m.count true : Nat) : Int)
  | 0, i, k, h, hk => by
    obtain ⟨k, rfl⟩ : ∃ x, k = x + 1 := ⟨k - 1, by omega⟩
    simp only [cantleref10_Count.l0]
    rw [if_neg (by omega), List.take_of_length_le (by omega)]
  | d + 1, i, k, h, hk => by
    obtain ⟨k, rfl⟩ : ∃ x, k = x + 1 := ⟨k - 1, by omega⟩
    have hi : i < m.length := by omega
    have ih := count_ev m hm d (i + 1) k (by omega) (by omega)
    have hc := List.count_le_length (a := true) (l := m.take i)
    have hl : (m.take i).length = i := by simp; omega
    rw [List.take_succ_eq_append_getElem hi, List.count_append] at ih
    simp only [cantleref10_Count.l0]
    rw [if_pos (by omega), if_pos (by omega), if_pos (by omega), rdOf_nat, wsucc i (by omega), Math.w64 (n := ((m.take i).count true : Nat) + 1) (by omega) (by omega)]
    have e : m.getD i false = m[i] := by simp [List.getD_eq_getElem?_getD, hi]
    rw [e]
    cases hb : m[i] with
    | true => rw [hb] at ih; rw [if_pos rfl, ← ih]; simp
    | false => rw [hb] at ih; rw [if_neg (by simp), ← ih]; simp
theorem count_f (m : List Bool) (hm : m.length ≤ 65534) (k : Nat) (hk : m.length < k) : cantleref10_Count.f k m = some ((m.count true : Nat) : Int) := by
  unfold cantleref10_Count.f
  have := count_ev m hm m.length 0 k (by omega) hk
  simpa using this
theorem puts_set (m : List Bool) (s j : Nat) (hs : s + j < m.length) (hf : (putsB j (s : Int) m).getD (s + j) false = false) : (putsB j (s : Int) m).set (s + j) true = putsB (j + 1) (s : Int) m := by
  show _ = (turnB false (putsB j (s : Int) m) [(s : Int) + (j : Nat)]).1
  have : turnB false (putsB j (s : Int) m) [((s + j : Nat) : Int)] = ((putsB j (s : Int) m).set (s + j) true, 1) := by
    show turnB1 false (putsB j (s : Int) m, 0) ((s + j : Nat) : Int) = _
    unfold turnB1
    rw [if_pos ⟨by rw [hasAt_nat]; simpa using hf, by omega, by rw [putsB_length]; omega⟩, Int.toNat_natCast]
    rfl
  rw [show ((s : Int) + (j : Nat)) = ((s + j : Nat) : Int) from by omega, this]
theorem l2_ev {r : List Bool × List S64 × Bool} (m : List Bool) (hm : m.length ≤ 65534) (x8 rc : List S64) (n i : Int) (s d : Nat) (hsd : s + d ≤ m.length) (hf : ∀ j, j < d → (putsB j (s : Int) m).getD (s + j) false = false)
    (h : Ev (fun k => cantleref11_Take.l1 k (putsB d (s : Int) m) x8 rc n (wrap64 (i + 1))) r) :
    ∀ e j : Nat, j + e = d → Ev (fun k => cantleref11_Take.l2 k (putsB j (s : Int) m) x8 rc n i (d : Int) (j : Int) (s : Int) (d : Int)) r
  | 0, j, he => by
    obtain rfl : j = d := by omega
    refine Ev.succ 0 (fun k _ => ?_) h
    simp only [cantleref11_Take.l2]
    rw [if_neg (by omega)]
  | e + 1, j, he => by
    have ih := l2_ev m hm x8 rc n i s d hsd hf h e (j + 1) (by omega)
    refine Ev.succ 0 (fun k _ => ?_) ih
    simp only [cantleref11_Take.l2]
    rw [if_pos (by omega), Math.w64 (n := (s : Int) + (j : Int)) (by omega) (by omega), if_pos (by omega), if_pos (by rw [putsB_length]; omega), show ((s : Int) + (j : Int)).toNat = s + j from by omega, puts_set m s j (by omega) (hf j (by omega)), wsucc j (by omega)]
theorem rd_conv (rs : List S60) (i : Nat) (hi : i < rs.length) : rd_T64 (rs.map conv) (i : Int) = conv rs[i] := by
  unfold rd_T64; simp [List.getD_eq_getElem?_getD, hi]
theorem l1_ev (rs : List S60) (hl : rs.length ≤ 70000) (x8 : List S64) : ∀ (e i : Nat) (m : List Bool) (p : Int), m.length ≤ 65534 → -1 ≤ p → i + e = rs.length → Chain m p (rs.drop i) →
    Ev (fun k => cantleref11_Take.l1 k m x8 (rs.map conv) (rs.length : Int) (i : Int)) (takeM m (rs.drop i), x8, true)
  | 0, i, m, p, hm, hp, he, hc => by
    refine Ev.done 0 (fun k _ => ?_)
    simp only [cantleref11_Take.l1]
    rw [if_neg (by omega), List.drop_of_length_le (by omega)]
    rfl
  | e + 1, i, m, p, hm, hp, he, hc => by
    have hi : i < rs.length := by omega
    rw [List.drop_eq_getElem_cons hi] at hc ⊢
    have hrd := rd_conv rs i hi
    generalize rs[i] = r at hc hrd ⊢
    obtain ⟨f0, f1⟩ := r
    have hn := chain_next hp hc
    obtain ⟨c1, c2, c3, c4, c5⟩ := hc
    dsimp only at c1 c2 c3 c4 hn
    obtain ⟨s, rfl⟩ := Int.eq_ofNat_of_zero_le (show 0 ≤ f0 by omega)
    obtain ⟨d, rfl⟩ := Int.eq_ofNat_of_zero_le (show 0 ≤ f1 by omega)
    rw [Int.toNat_natCast] at hn
    have ih := l1_ev rs hl x8 e (i + 1) (putsB d (s : Int) m) _ (by rw [putsB_length]; exact hm) (by omega) (by omega) hn
    have ht : takeM m (⟨(s : Int), (d : Int)⟩ :: rs.drop (i + 1)) = takeM (putsB d (s : Int) m) (rs.drop (i + 1)) := by
      show takeM (rangeE m (s : Int) (d : Int)) (rs.drop (i + 1)) = _
      rw [show rangeE m (s : Int) (d : Int) = _ from range_chain (r := ⟨(s : Int), (d : Int)⟩) (by show (0 : Int) ≤ s; omega) c2 c3 c4]
      simp
    rw [ht]
    have hf : ∀ j, j < d → (putsB j (s : Int) m).getD (s + j) false = false := fun j hj => by
      rw [puts_get m s j (by omega) (fun q a b => c4 q (by omega) (by omega)), c4 (s + j) (by omega) (by omega), decide_eq_false (show ¬ s + j < s + j by omega)]; simp
    have h2 := l2_ev m hm x8 (rs.map conv) (rs.length : Int) (i : Int) s d (by omega) hf (by rw [wsucc i (by omega)]; exact ih) d 0 (by omega)
    refine Ev.succ 0 (fun k _ => ?_) h2
    simp only [cantleref11_Take.l1]
    rw [if_pos (by omega), if_pos (by omega), if_pos (by simp; omega), hrd]
    rfl
theorem j4_ev (rs : List S60) (hl : rs.length ≤ 70000) (m : List Bool) (hm : m.length ≤ 65534) (p : Int) (hp : -1 ≤ p) (hc : Chain m p rs) :
    Ev (fun k => cantleref11_Take.j4 k m (rs.map conv)) (takeM m rs, rs.map conv, true) := by
  have h := l1_ev rs hl (rs.map conv) rs.length 0 m p hm hp (by omega) (by rw [List.drop_zero]; exact hc)
  rw [List.drop_zero] at h
  refine Ev.succ 0 (fun k _ => ?_) h
  simp only [cantleref11_Take.j4, List.length_map]
  rfl
theorem l0_ev {r : List Bool × List S64 × Bool} (rs : List S60) (hl : rs.length ≤ 70000) (out : List Bool) (fin : List S60) (hfl : fin.length ≤ 70000)
    (h : Ev (fun k => cantleref11_Take.j4 k out (fin.map conv)) r) : ∀ (e i : Nat) (x : Int) (acc : List S60), 0 ≤ x → x ≤ 65534 → (∀ y ∈ rs, 0 ≤ y.f1 ∧ y.f1 ≤ 65534) → i + e = rs.length → acc ++ takeR x (rs.drop i) = fin →
    Ev (fun k => cantleref11_Take.l0 k out (acc.map conv) false x (rs.map conv) (rs.length : Int) (i : Int)) r
  | 0, i, x, acc, hx0, hx1, hb, he, ha => by
    rw [List.drop_of_length_le (by omega)] at ha
    have : acc = fin := by simpa [takeR] using ha
    subst this
    refine Ev.succ 0 (fun k _ => ?_) h
    simp only [cantleref11_Take.l0]
    rw [if_neg (by omega)]
  | e + 1, i, x, acc, hx0, hx1, hb, he, ha => by
    have hi : i < rs.length := by omega
    have hrd := rd_conv rs i hi
    have hbi := hb rs[i] (List.getElem_mem _)
    have e1 : ∀ k, cantleref11_Take.l0 (k + 1) out (acc.map conv) false x (rs.map conv) (rs.length : Int) (i : Int) = cantleref11_Take.j3 k out (acc.map conv) false x (rs.map conv) (rs.length : Int) (i : Int) (x == 0) rs[i].f0 rs[i].f1 := by
      intro k
      simp only [cantleref11_Take.l0]
      rw [if_pos (by omega), if_pos (by omega), if_pos (by simp; omega), if_neg (by simp), hrd]
      rfl
    refine Ev.succ 0 (fun k _ => e1 k) ?_
    rw [List.drop_eq_getElem_cons hi] at ha
    generalize rs[i] = y at ha hbi ⊢
    have hac : acc.length ≤ 70000 := by have := congrArg List.length ha; rw [List.length_append] at this; omega
    unfold takeR at ha
    by_cases hz : x = 0
    · rw [if_pos hz, List.append_nil] at ha
      subst ha
      refine Ev.succ 0 (fun k _ => ?_) h
      simp only [cantleref11_Take.j3]
      rw [if_pos (by simp [hz])]
    · rw [if_neg hz] at ha
      by_cases hle : y.f1 ≤ x
      · rw [if_pos hle] at ha
        have ih := l0_ev rs hl out fin hfl h e (i + 1) (x - y.f1) (acc ++ [⟨y.f0, y.f1⟩]) (by omega) (by omega) hb (by omega) (by rw [← ha]; simp)
        refine Ev.succ 0 (fun k _ => ?_) ih
        simp only [cantleref11_Take.j3]
        rw [if_neg (by simpa using hz), if_neg (by omega), if_pos (by simp; omega), wsucc i (by omega), Math.w64 (n := x - y.f1) (by omega) (by omega), List.map_append]
        rfl
      · rw [if_neg hle] at ha
        have ih := l0_ev rs hl out fin hfl h e (i + 1) (x - x) (acc ++ [⟨y.f0, x⟩]) (by omega) (by omega) hb (by omega) (by rw [← ha]; simp)
        refine Ev.succ 0 (fun k _ => ?_) ih
        simp only [cantleref11_Take.j3]
        rw [if_neg (by simpa using hz), if_pos (by omega), if_pos (by simp; omega), wsucc i (by omega), Math.w64 (n := x - x) (by omega) (by omega), List.map_append]
        rfl
theorem l0_is {r : List Bool × List S64 × Bool} (rs : List S60) (hl : rs.length ≤ 70000) (out : List Bool) (fin : List S64) (x : Int)
    (h : Ev (fun k => cantleref11_Take.j4 k out fin) r) : Ev (fun k => cantleref11_Take.l0 k out fin true x (rs.map conv) (rs.length : Int) 0) r := by
  by_cases hz : 0 < rs.length
  · refine Ev.succ (G := fun k => cantleref11_Take.j3 k out fin true x (rs.map conv) (rs.length : Int) 0 true (rd_T64 (rs.map conv) 0).f0 (rd_T64 (rs.map conv) 0).f1) 0 (fun k _ => ?_) (Ev.succ 0 (fun k _ => ?_) h)
    · simp only [cantleref11_Take.l0]
      rw [if_pos (by omega), if_pos (by omega), if_pos (by simp; omega), if_pos trivial]
    · simp only [cantleref11_Take.j3]
      rw [if_pos trivial]
  · refine Ev.succ 0 (fun k _ => ?_) h
    simp only [cantleref11_Take.l0]
    rw [if_neg (by omega)]
theorem take_f_yes (m : List Bool) (hm : m.length ≤ 65534) (c : Int) (h : takeOk m c = true) : Ev (fun k => cantleref11_Take.f k m c) (takeM m (pickOf m c), (pickOf m c).map conv, true) := by
  have hlaw := pick_law m hm c h
  have hpl := pick_length m c
  have hrl := runs_few m hm
  have hct := List.count_le_length (a := true) (l := m)
  unfold takeOk at h
  simp only [Bool.and_eq_true, decide_eq_true_eq] at h
  obtain ⟨h0, h1⟩ := h
  have hj4 := j4_ev (pickOf m c) (by omega) m hm (-1) (by omega) hlaw.1
  have e1 : ∀ k, m.length < k → cantleref11_Take.f k m c = cantleref11_Take.j0 k m c false := by
    intro k hk
    unfold cantleref11_Take.f
    rw [if_neg (by omega), count_f m hm k hk]
    show cantleref11_Take.j0 k m c _ = _
    rw [Math.w64 (n := (m.length : Int) - (m.count true : Nat)) (by omega) (by omega), decide_eq_false (by omega)]
  have e2 : Ev (fun k => cantleref11_Take.j0 k m c false) (takeM m (pickOf m c), (pickOf m c).map conv, true) := by
    have hstep : ∀ k, 70000 < k → cantleref11_Take.j0 (k + 1) m c false = cantleref11_Take.j1 k m c m (if (fitOf m c).2.2 = true then [⟨(fitOf m c).1, (fitOf m c).2.1⟩] else []) (fitOf m c).2.2 := by
      intro k hk
      simp only [cantleref11_Take.j0]
      rw [if_neg (by simp), Option.bind_some, if_pos (by simp; omega), Option.bind_some, fit_f m hm c k hk, Option.bind_some]
      simp only [List.nil_append]
      split <;> rfl
    refine Ev.succ 70001 (fun k hk => hstep k (by omega)) ?_
    have hstep2 : ∀ k l is, 70000 < k → cantleref11_Take.j1 (k + 1) m c m l is = cantleref11_Take.l0 k m l is c ((runsOf m).map conv) ((runsOf m).length : Int) 0 := by
      intro k l is hk
      simp only [cantleref11_Take.j1]
      rw [free_f m hm k (by omega), Option.bind_some, List.length_map]
    refine Ev.succ 70001 (fun k hk => hstep2 k _ _ (by omega)) ?_
    by_cases hf : (fitOf m c).2.2 = true
    · have hp : pickOf m c = [⟨(fitOf m c).1, (fitOf m c).2.1⟩] := by unfold pickOf; rw [if_pos hf]
      rw [hf, if_pos rfl]
      rw [hp] at hj4 ⊢
      exact l0_is (runsOf m) (by omega) m _ c hj4
    · have hp : pickOf m c = takeR c (runsOf m) := by unfold pickOf; rw [if_neg hf]
      have hf' : (fitOf m c).2.2 = false := by simpa using hf
      rw [hf', if_neg (by simp)]
      have := l0_ev (runsOf m) (by omega) m (pickOf m c) (by omega) hj4 (runsOf m).length 0 c [] h0 (by omega) (fun y hy => by have := freeR_bd m hm _ _ (Nat.zero_le _) y hy; omega) (by omega) (by rw [List.drop_zero, List.nil_append, hp])
      exact this
  obtain ⟨B, hB⟩ := e2
  exact ⟨B + m.length + 1, fun k hk => by show cantleref11_Take.f k m c = _; rw [e1 k (by omega)]; exact hB k (by omega)⟩
theorem take_f_no (m : List Bool) (hm : m.length ≤ 65534) (c : Int) (h : takeOk m c = false) : Ev (fun k => cantleref11_Take.f k m c) (m, [], false) := by
  have hct := List.count_le_length (a := true) (l := m)
  refine ⟨m.length + 2, fun k hk => ?_⟩
  obtain ⟨k', rfl⟩ : ∃ x, k = x + 1 := ⟨k - 1, by omega⟩
  show cantleref11_Take.f (k' + 1) m c = _
  unfold cantleref11_Take.f
  by_cases h0 : c < 0
  · rw [if_pos h0]
    simp only [cantleref11_Take.j0]
    rw [if_pos trivial]
  · have h1 : (m.length : Int) - (m.count true : Nat) < c := by
      unfold takeOk at h
      rw [decide_eq_true (by omega : 0 ≤ c)] at h
      simpa using h
    rw [if_neg h0, count_f m hm _ (by omega), Option.bind_some, Math.w64 (n := (m.length : Int) - (m.count true : Nat)) (by omega) (by omega), decide_eq_true (by omega)]
    simp only [cantleref11_Take.j0]
    rw [if_pos trivial]
end Go.Proofs.Ytcknljndogbbhaa.Rn
