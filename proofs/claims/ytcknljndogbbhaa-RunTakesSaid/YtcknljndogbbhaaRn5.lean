/- What Take takes: runs one after the other, each free, their blocks as many as asked. Conditions: as each lemma says. -/
import Derived.Test.YtcknljndogbbhaaWalkRunFits
namespace Go.Proofs.Ytcknljndogbbhaa.Rn
open Go.RowKit Go.Proofs.Ytcknljndogbbhaa Go.Proofs.Ytcknljndogbbhaa.Bm Go.Proofs.Ytcknljndogbbhaa.PAll Go.Proofs.YtcknljndogbbhaaW.PrintWords Go.Proofs.YtcknljndogbbhaaW.PrintLast Go.Proofs.YtcknljndogbbhaaW.PrintMore
attribute [local go_sem] max2_int min2_int max_two min_two
set_option linter.unusedVariables false
/-- Runs one after the other, each free in the map and apart. -/
def Chain (m : List Bool) : Int → List S60 → Prop
  | _, [] => True
  | p, r :: rs => p < r.f0 ∧ 1 ≤ r.f1 ∧ r.f0 + r.f1 ≤ m.length ∧ (∀ q : Nat, r.f0 ≤ (q : Int) → (q : Int) < r.f0 + r.f1 → m.getD q false = false) ∧ Chain m (r.f0 + r.f1) rs
theorem turn1_get (m : List Bool) (was : Bool) (s q : Nat) (hs : s < m.length) (h : m.getD s false = was) : (turnB was m [(s : Int)]).1.getD q false = (if q = s then !was else m.getD q false) ∧ (turnB was m [(s : Int)]).2 = 1 := by
  have : turnB was m [(s : Int)] = (m.set s (!was), 1) := by
    show turnB1 was (m, 0) (s : Int) = _
    unfold turnB1
    rw [if_pos ⟨by rw [hasAt_nat]; simpa using h, by omega, by simpa using hs⟩]
    simp
  rw [this]
  refine ⟨?_, rfl⟩
  simp only [List.getD_eq_getElem?_getD, List.getElem?_set]
  by_cases e : s = q
  · subst e; simp [hs]
  · rw [if_neg e, if_neg (fun h => e h.symm)]
theorem puts_get (m : List Bool) (a : Nat) : ∀ d, a + d ≤ m.length → (∀ q, a ≤ q → q < a + d → m.getD q false = false) → ∀ q : Nat, (putsB d (a : Int) m).getD q false = (m.getD q false || (decide (a ≤ q) && decide (q < a + d)))
  | 0, h, hf, q => by
    have : ¬ (a ≤ q ∧ q < a + 0) := by omega
    simp only [putsB]
    by_cases h1 : a ≤ q
    · rw [decide_eq_false (show ¬ q < a + 0 by omega)]; simp
    · rw [decide_eq_false h1]; simp
  | d + 1, h, hf, q => by
    have ih := puts_get m a d (by omega) (fun q h1 h2 => hf q h1 (by omega))
    have hz : (putsB d (a : Int) m).getD (a + d) false = false := by
      rw [ih, hf (a + d) (by omega) (by omega), decide_eq_false (show ¬ a + d < a + d by omega)]; simp
    have := (turn1_get (putsB d (a : Int) m) false (a + d) q (by rw [putsB_length]; omega) hz).1
    simp only [putsB]
    rw [show ((a : Int) + (d : Nat)) = ((a + d : Nat) : Int) from by omega, this, ih]
    by_cases e : q = a + d
    · subst e
      rw [if_pos rfl, decide_eq_true (show a ≤ a + d by omega), decide_eq_true (show a + d < a + (d + 1) by omega)]; simp
    · rw [if_neg e]
      congr 2
      exact decide_eq_decide.mpr (by omega)
theorem range_chain {m : List Bool} {r : S60} (h0 : 0 ≤ r.f0) (h1 : 1 ≤ r.f1) (h2 : r.f0 + r.f1 ≤ m.length) (hf : ∀ q : Nat, r.f0 ≤ (q : Int) → (q : Int) < r.f0 + r.f1 → m.getD q false = false) : rangeE m r.f0 r.f1 = putsB r.f1.toNat r.f0 m := by
  obtain ⟨s, hs⟩ := Int.eq_ofNat_of_zero_le h0
  have : rangeB m r.f0 r.f1 = true := by
    unfold rangeB
    rw [decide_eq_true h1, decide_eq_true h0, decide_eq_true (by omega : r.f0 < m.length), decide_eq_true (by omega : r.f1 ≤ m.length - r.f0), hs, Int.toNat_natCast]
    rcases nextB_spec m true (m.length - s) s (by omega) with ⟨k1, _⟩ | ⟨q, k1, k2, k3, k4, _⟩
    · rw [k1]; rfl
    · rw [k3]
      have : ¬ (q : Int) < s + r.f1 := fun hq => by
        have := hf q (by omega) (by omega)
        rw [this] at k4; cases k4
      rw [decide_eq_false this]; simp
  unfold rangeE
  rw [if_pos this]
theorem chain_mono (m m' : List Bool) (hl : m'.length = m.length) : ∀ (rs : List S60) (p : Int), (∀ q : Nat, p < q → m'.getD q false = m.getD q false) → Chain m p rs → Chain m' p rs
  | [], p, _, _ => trivial
  | r :: rs, p, h, ⟨h1, h2, h3, h4, h5⟩ => ⟨h1, h2, by rw [hl]; exact h3, fun q a b => by rw [h q (by omega)]; exact h4 q a b, chain_mono m m' hl rs _ (fun q hq => h q (by omega)) h5⟩
theorem chain_next {m : List Bool} {p : Int} {r : S60} {rs : List S60} (hp : -1 ≤ p) (h : Chain m p (r :: rs)) : Chain (putsB r.f1.toNat r.f0 m) (r.f0 + r.f1) rs := by
  obtain ⟨h1, h2, h3, h4, h5⟩ := h
  obtain ⟨s, hs⟩ := Int.eq_ofNat_of_zero_le (show 0 ≤ r.f0 by omega)
  obtain ⟨d, hd⟩ := Int.eq_ofNat_of_zero_le (show 0 ≤ r.f1 by omega)
  refine chain_mono m _ (putsB_length _ _ _) rs _ (fun q hq => ?_) h5
  rw [hs, hd, Int.toNat_natCast, puts_get m s d (by omega) (fun q a b => h4 q (by omega) (by omega)), decide_eq_false (show ¬ q < s + d by omega)]
  simp
theorem marks_kept : ∀ (rs : List S60) (m : List Bool) (p : Int), -1 ≤ p → Chain m p rs → ∀ q : Nat, m.getD q false = true → (takeM m rs).getD q false = true
  | [], m, p, _, _, q, h => h
  | r :: rs, m, p, hp, hc, q, h => by
    have hn := chain_next hp hc
    obtain ⟨h1, h2, h3, h4, h5⟩ := hc
    show (takeM (rangeE m r.f0 r.f1) rs).getD q false = true
    rw [range_chain (by omega) h2 h3 h4]
    refine marks_kept rs _ _ (by omega) hn q ?_
    obtain ⟨s, hs⟩ := Int.eq_ofNat_of_zero_le (show 0 ≤ r.f0 by omega)
    obtain ⟨d, hd⟩ := Int.eq_ofNat_of_zero_le (show 0 ≤ r.f1 by omega)
    rw [hs, hd, Int.toNat_natCast, puts_get m s d (by omega) (fun q a b => h4 q (by omega) (by omega)), h]
    rfl
theorem marked {r : S60} {rs : List S60} {m : List Bool} {p : Int} (hp : -1 ≤ p) (hc : Chain m p (r :: rs)) (q : Nat) (h1 : r.f0 ≤ q) (h2 : (q : Int) < r.f0 + r.f1) : (takeM (putsB r.f1.toNat r.f0 m) rs).getD q false = true := by
  have hn := chain_next hp hc
  obtain ⟨k1, k2, k3, k4, k5⟩ := hc
  refine marks_kept rs _ _ (by omega) hn q ?_
  obtain ⟨s, hs⟩ := Int.eq_ofNat_of_zero_le (show 0 ≤ r.f0 by omega)
  obtain ⟨d, hd⟩ := Int.eq_ofNat_of_zero_le (show 0 ≤ r.f1 by omega)
  rw [hs, hd, Int.toNat_natCast, puts_get m s d (by omega) (fun q a b => k4 q (by omega) (by omega)), decide_eq_true (show s ≤ q by omega), decide_eq_true (show q < s + d by omega)]
  simp
theorem take_chain (m : List Bool) : ∀ (d q : Nat) (p c : Int), q ≤ m.length → m.length < d + q → p ≤ q → (p = q → q < m.length → m.getD q false = true) → 0 ≤ c → Chain m p (takeR c (freeR m d q))
  | 0, q, p, c, h1, h2, _, _, _ => by omega
  | d + 1, q, p, c, h1, h2, h3, h4, hc => by
    rcases freeR_step m d q h1 with ⟨_, k2, _⟩ | ⟨s, e, k1, k2, k3, _, k5, k6, k7, k8⟩
    · rw [k2]; trivial
    · rw [k5]
      unfold takeR
      by_cases hc0 : c = 0
      · rw [if_pos hc0]; trivial
      · rw [if_neg hc0]
        have hps : p < (s : Int) := by
          rcases Int.lt_or_le p (s : Int) with h | h
          · exact h
          · have hpq : p = (q : Int) := by omega
            have hqs : s = q := by omega
            subst hqs
            have := h4 hpq (by omega)
            rw [k8 s (Nat.le_refl _) k2] at this; cases this
        dsimp only
        by_cases hle : (e : Int) - s ≤ c
        · rw [if_pos hle]
          refine ⟨hps, by show 1 ≤ (e : Int) - s; omega, by show (s : Int) + ((e : Int) - s) ≤ _; omega, fun x a b => k8 x (by simp at a; omega) (by simp at a b; omega), ?_⟩
          refine take_chain m d e _ _ k3 (by omega) (by show (s : Int) + ((e : Int) - s) ≤ e; omega) (fun _ hl => ?_) (by omega)
          rcases k6 with ⟨_, h⟩ | ⟨_, _, h⟩
          · omega
          · exact h
        · rw [if_neg hle]
          refine ⟨hps, by show 1 ≤ c; omega, by show (s : Int) + c ≤ _; omega, fun x a b => k8 x (by simp at a; omega) (by simp at a b; omega), ?_⟩
          refine take_chain m d e _ _ k3 (by omega) (by show (s : Int) + c ≤ e; omega) (fun h _ => by exfalso; revert h; show (s : Int) + c = e → False; omega) (by omega)
theorem take_sum (rs : List S60) (h : ∀ r ∈ rs, 0 ≤ r.f1) : ∀ c, 0 ≤ c → c ≤ sumR rs → sumR (takeR c rs) = c := by
  induction rs with
  | nil => intro c h0 h1; simp [sumR] at h1; simp [takeR, sumR]; omega
  | cons r rs ih =>
    intro c h0 h1
    have hr := h r (by simp)
    have ih' := ih (fun x hx => h x (by simp [hx]))
    have hc : sumR (r :: rs) = r.f1 + sumR rs := by simp [sumR]
    unfold takeR
    by_cases hc0 : c = 0
    · rw [if_pos hc0]; simp [sumR]; omega
    · rw [if_neg hc0]
      have e : ∀ (x : Int) l, sumR ((⟨r.f0, x⟩ : S60) :: l) = x + sumR l := fun x l => by simp [sumR]
      by_cases hle : r.f1 ≤ c
      · rw [if_pos hle, e, ih' _ (by omega) (by omega)]; omega
      · rw [if_neg hle, e, ih' _ (by omega) (by
          have : 0 ≤ sumR rs := by
            clear ih ih' h1 hc e hle
            induction rs with
            | nil => simp [sumR]
            | cons x l ihl =>
              have := ihl (fun y hy => h y (by simp at hy ⊢; rcases hy with h | h <;> simp [h]))
              have hx := h x (by simp)
              have : sumR (x :: l) = x.f1 + sumR l := by simp [sumR]
              omega
          omega)]; omega
theorem pick_law (m : List Bool) (hm : m.length ≤ 65534) (c : Int) (h : takeOk m c = true) : Chain m (-1) (pickOf m c) ∧ sumR (pickOf m c) = c := by
  unfold takeOk at h
  simp only [Bool.and_eq_true, decide_eq_true_eq] at h
  obtain ⟨h0, h1⟩ := h
  rw [← sumR_runs] at h1
  have hgen : Chain m (-1) (takeR c (runsOf m)) ∧ sumR (takeR c (runsOf m)) = c := ⟨take_chain m _ 0 (-1) c (Nat.zero_le _) (by omega) (by omega) (fun h => by omega) h0, take_sum _ (fun r hr => by have := freeR_bd m hm _ _ (Nat.zero_le _) r hr; omega) c h0 h1⟩
  unfold pickOf
  by_cases hc : c < 1
  · have e : fitOf m c = (0, 0, false) := by unfold fitOf; rw [if_pos hc]
    rw [e, if_neg (by simp)]
    exact hgen
  · have hf : fitOf m c = findFit c (runsOf m) := by unfold fitOf; rw [if_neg hc]
    rcases fit_step m c (by omega) (m.length + 1) 0 (Nat.zero_le _) (by omega) with ⟨h1, h2⟩ | ⟨s, h1, h2, h3, h4⟩
    · have : fitOf m c = (0, 0, false) := hf.trans h1
      rw [this, if_neg (by simp)]
      exact hgen
    · have : fitOf m c = ((s : Int), c, true) := hf.trans h1
      rw [this, if_pos rfl]
      exact ⟨⟨by show (-1 : Int) < s; omega, by show 1 ≤ c; omega, h2, fun q a b => h3 q (by simp at a; omega) (by simpa using b), trivial⟩, by simp [sumR]⟩
set_option maxHeartbeats 4000000 in
theorem take_own {W : World} {g b : Nat} {m : List Bool} (h : Holds W g b m) (hn : m.length ≤ 65534) (c : Int) (ht : takeOk m c = true) (hbW : True) :
    Calls Try.prog 42 #[.pointer (some ⟨g, 0, none⟩), .int .i64 c] W fun e w' => ∃ A cc, e = .returned (.tuple #[.slice A (pickOf m c).length cc, .bool true]) ∧ (pickOf m c).length ≤ cc ∧ Kd.C k60 w' A (pickOf m c).length (pickOf m c) ∧ Holds w' g b (takeM m (pickOf m c)) ∧ W.grownBy w' (some b) ∧ ∀ ad, A = some ad → W.heap.size ≤ ad.block := by
  have HH := Aside0.mk h
  have HN := Aside0.mk hn
  have hcnt := List.count_le_length (a := true) (l := m)
  unfold takeOk at ht
  simp only [Bool.and_eq_true, decide_eq_true_eq] at ht
  obtain ⟨h0, h1⟩ := ht
  have hc : 0 ≤ c ∧ c ≤ 65534 := by omega
  have HF := Aside0.mk (freeH HH.out hn)
  generalize ((m.count true : Nat) : Int) = t at h1 HF
  generalize hF : (m.length : Int) - t = F at h1 HF
  clear hF h hcnt
  have d0 : decide (c < 0) = false := decide_eq_false (by omega)
  have d1 : decide (F < c) = false := decide_eq_false (by omega)
  have HP := Aside0.mk (fun k => pickH (HH.out.drewN k) hn c hc)
  have HPB := Aside0.mk (pick_bd m hn c hc)
  have HPL := Aside0.mk (pick_length m c)
  generalize pickOf m c = rs at HP HPB HPL ⊢
  clear h0 h1
  go_enter Try.func42, Try.ntmps42
  go_wp2_with (go_at_call 18; refine HF.out.mono ?_; rintro e w1 ⟨rfl, n1, rfl⟩)
  refine (HP.out n1).mono ?_
  rintro e w2 ⟨v, rfl, ho, hb2⟩
  obtain ⟨A, cc, rfl, hle, hC⟩ := OwnR.C ho (by have := HPL.out; omega)
  have HLE := Aside0.mk hle
  have HC := Aside0.mk hC
  have HB := Aside0.mk (show Below W.heap.size W w2 from below_then (pw_below_drewN (Below.refl _ W) n1) (Nat.le_refl _) hb2)
  have hAne : ∀ ad, A = some ad → ad.block ≠ b := fun ad e => by
    subst e
    have h3 := own_base (OwnR.own ho) ad.block rfl
    have h4 := HH.out.lt.2.1
    have h5 : (W.drewN n1).heap.size = W.heap.size := rfl
    omega
  have HA := Aside0.mk hAne
  have HAB := Aside0.mk (show ∀ ad, A = some ad → W.heap.size ≤ ad.block from fun ad e => by
    subst e
    exact own_base (OwnR.own ho) ad.block rfl)
  have HH2 := Aside0.mk (HH.out.below HB.out)
  clear ho hb2 hC hle hAne HP HF
  go_wp2_with fail
  go_loopw [22] (fun v22 wr => ∃ k : Nat, k ≤ rs.length ∧ v22 = .int .i64 k ∧ Aside0 (Holds wr g b (takeM m (rs.take k))) ∧ Aside0 (w2.grownBy wr (some b))) (fun v22 _ => rs.length - (intOf v22).toNat)
  case atStart => exact ⟨0, Nat.zero_le _, rfl, HH2, ⟨World.grownBy.refl _ _⟩⟩
  case round =>
    obtain ⟨k, hk, rfl, HHr, HGr⟩ := hrel
    have hl := HPL.out
    have hn' := HN.out
    have HCr := Aside0.mk (C60_keep HC.out (keep_of HGr.out) HA.out)
    by_cases hlt : k < rs.length
    · obtain ⟨ad, eA, q0, q1⟩ := runs_at HCr.out k hlt
      subst eA
      have hbk := HPB.out rs[k] (List.getElem_mem _)
      have hs : takeM m (rs.take (k + 1)) = rangeE (takeM m (rs.take k)) rs[k].f0 rs[k].f1 := by rw [List.take_succ_eq_append_getElem hlt, takeM_snoc]
      have HS := Aside0.mk hs
      clear hs
      generalize rs[k] = r at q0 q1 HS hbk
      have hml := takeM_length (rs.take k) m
      have HML := Aside0.mk hml
      clear hml
      go_wp2_with fail
      refine (rangeH (HHr.out.alloc _) (by have := HML.out; omega) r.f0 r.f1 (by omega) (by omega)).mono ?_
      rintro e w4 ⟨rfl, hH4, hG4⟩
      rw [← HS.out] at hH4
      go_wp2_with fail
      go_roundw
      case rel => exact ⟨k + 1, by omega, by go_num, ⟨hH4⟩, ⟨grown_trans (grown_alloc HGr.out _) hG4⟩⟩
      case measure => simp [intOf]; omega
    · obtain rfl : k = rs.length := by omega
      go_wp2_with fail
      go_ret2
      rw [List.take_length] at HHr
      exact ⟨A, cc, rfl, HLE.out, HCr.out, HHr.out, ⟨HGr.out.os.trans HB.out.os, HGr.out.tape.trans HB.out.tape, HGr.out.output.trans HB.out.output, Nat.le_trans HB.out.size HGr.out.size, fun i hi hne => (HGr.out.block i (Nat.lt_of_lt_of_le hi HB.out.size) hne).trans (HB.out.block i hi)⟩, HAB.out⟩
end Go.Proofs.Ytcknljndogbbhaa.Rn
