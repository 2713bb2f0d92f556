/- The laws' own comparison of a map with truths; two maps compared. Conditions: as each lemma says. -/
import Derived.Test.YtcknljndogbbhaaBmR
import Derived.Test.YtcknljndogbbhaaBmL
import Derived.LaidEqlPtr
namespace Go.Proofs.Ytcknljndogbbhaa.Bm
open Go.RowKit Go.Proofs.Ytcknljndogbbhaa Go.Proofs.Ytcknljndogbbhaa.PAll Go.Proofs.YtcknljndogbbhaaW.PrintWords Go.Proofs.YtcknljndogbbhaaW.PrintLast Go.Proofs.YtcknljndogbbhaaW.PrintMore
attribute [local go_sem] max2_int min2_int max_two min_two
set_option linter.unusedVariables false
theorem Cb_at {W : World} {A : Option Addr} {m : List Bool} (h : Kd.bool.C W A m.length m) (i : Nat) (hi : i < m.length) : ∃ ad, A = some ad ∧ W.cell? (ad.add i) = some (.bool (m.getD i false)) := by
  obtain ⟨ad, c, e, _, hK, hc⟩ := Kd.C_get h false (i : Int) (by omega) (by omega)
  have hK' : c = [.bool (m.getD (i : Int).toNat false)] := hK
  subst hK'
  refine ⟨ad, e, ?_⟩
  have := hc 0 _ rfl
  have hsz : (Kd.bool).sz = 1 := rfl
  rw [hsz, Nat.mul_one, Nat.add_zero, Int.toNat_natCast] at this
  exact this
set_option maxHeartbeats 4000000 in
/-- The laws' Same: a map and the truths that it holds. -/
theorem sameH {W : World} {g b : Nat} {m : List Bool} (h : Holds W g b m) (hn : m.length ≤ 65534) (A : Option Addr) (c : Nat) (hC : Kd.bool.C W A m.length m) (hc : m.length ≤ c) :
    Calls Try.prog 21 #[.pointer (some ⟨g, 0, none⟩), .slice A m.length c] W fun e w' => e = .returned (.bool true) ∧ Below W.heap.size W w' := by
  have HH := Aside0.mk h
  have HC := Aside0.mk hC
  have HL := Aside0.mk hc
  clear h hC hc
  go_enter Try.func21, Try.ntmps21
  go_wp2_with fail
  go_loop [5] (fun v5 => ∃ z : Int, -1 ≤ z ∧ z ≤ m.length + 1 ∧ v5 = .int .i64 z) (fun v5 => (m.length + 1 - intOf v5).toNat)
  case atStart => exact ⟨-1, by omega, by omega, rfl⟩
  case round =>
    obtain ⟨z, hz0, hz1, rfl⟩ := hrel
    by_cases hlt : z ≤ m.length
    · have d0 : decide (z ≤ (m.length : Int)) = true := decide_eq_true hlt
      by_cases h0 : z < 0
      · have hv : hasAt m z = false := by unfold hasAt; rw [decide_eq_false (by omega)]; rfl
        have HV := Aside0.mk hv
        clear hv
        have d1 : decide (0 ≤ z) = false := decide_eq_false (by omega)
        go_wp2_with (go_at_call 16; refine (hasH HH.out hn z (by omega) (by omega)).mono ?_; rintro e w' ⟨rfl, rfl⟩; rw [HV.out])
        go_round
        case rel => exact ⟨z + 1, by omega, by omega, by go_num⟩
        case measure => simp [intOf]; omega
      · have d1 : decide (0 ≤ z) = true := decide_eq_true (by omega)
        obtain ⟨i, rfl⟩ := Int.eq_ofNat_of_zero_le (show 0 ≤ z by omega)
        by_cases h1 : i < m.length
        · obtain ⟨ad, eA, hcx⟩ := Cb_at HC.out i h1
          subst eA
          have HV := Aside0.mk (hasAt_nat m i)
          generalize m.getD i false = x at hcx HV
          have hx : (x != x) = false := by simp
          go_wp2_with (go_at_call 16; refine (hasH HH.out hn (i : Int) (by omega) (by omega)).mono ?_; rintro e w' ⟨rfl, rfl⟩; rw [HV.out])
          go_round
          case rel => exact ⟨(i : Int) + 1, by omega, by omega, by go_num⟩
          case measure => simp [intOf]; omega
        · have hv : hasAt m (i : Int) = false := by rw [hasAt_nat, List.getD_eq_getElem?_getD, List.getElem?_eq_none (by omega)]; rfl
          have HV := Aside0.mk hv
          clear hv
          have d2 : decide ((i : Int) < (m.length : Int)) = false := decide_eq_false (by omega)
          have d3 : decide (i < m.length) = false := decide_eq_false h1
          go_wp2_with (go_at_call 16; refine (hasH HH.out hn (i : Int) (by omega) (by omega)).mono ?_; rintro e w' ⟨rfl, rfl⟩; rw [HV.out])
          go_round
          case rel => exact ⟨(i : Int) + 1, by omega, by omega, by go_num⟩
          case measure => simp [intOf]; omega
    · have d0 : decide (z ≤ (m.length : Int)) = false := decide_eq_false hlt
      have hcnt := List.count_le_length (a := true) (l := m)
      go_wp2_with fail
      refine (lenH HH.out).mono ?_
      rintro e w' ⟨rfl, rfl⟩
      go_wp2_with fail
      refine (countH HH.out hn).mono ?_
      rintro e w' ⟨rfl, rfl⟩
      go_wp2_with fail
      refine (cantleref10_Count.calls (m.length + 1) A c m _ _ HC.out HL.out (count_f m (by omega) _ (by omega))).mono ?_
      rintro e w' ⟨rfl, n1, rfl⟩
      go_wp2_with fail
      refine (freeH (HH.out.drewN n1) hn).mono ?_
      rintro e w' ⟨rfl, n2, rfl⟩
      go_wp2_with fail
      refine (cantleref10_Count.calls (m.length + 1) A c m _ _ (Kd.C_drewN HC.out _) HL.out (count_f m (by omega) _ (by omega))).mono ?_
      rintro e w' ⟨rfl, n3, rfl⟩
      go_wp2_with fail
      refine (wordsH (HH.out.drewN _) hn).mono ?_
      rintro e w4 ⟨b4, c4, cs4, rfl, hb4, hR4, hB4⟩
      have HC4 := Aside0.mk (Kd.C_below (Kd.C_drewN HC.out _) hB4)
      have HB4 := Aside0.mk (below_then (pw_below_drewN (Below.refl _ W) _) (Nat.le_refl _) hB4)
      have HR4 := Aside0.mk hR4
      clear hR4 hB4 hb4
      go_wp2_with fail
      refine (cantleref10_Words.calls (m.length + 1) A c m _ _ HC4.out HL.out (words_f m hn _ (by omega))).mono ?_
      rintro e w5 ⟨v5, rfl, hr5, hB5⟩
      obtain ⟨A5, c5, rfl, hl5, hC5⟩ := Kd.R_reads hr5
      have HB5 := Aside0.mk (below_then HB4.out HB4.out.size hB5)
      have HR5 := Aside0.mk ((HR4.out.below hB5).C (by have := words_few m hn; omega))
      have HC5 := Aside0.mk hC5
      have HL5 := Aside0.mk hl5
      clear hr5 hB5 hC5 hl5
      go_wp2_with fail
      refine (cantlelaw03_Same.calls (2000) _ _ _ _ _ _ true _ HR5.out HR4.out.le HC5.out HL5.out (same_f _ (by have := words_few m hn; omega) _ (by have := words_few m hn; omega))).mono ?_
      rintro e w6 ⟨rfl, n6, rfl⟩
      go_wp2_with fail
      go_ret
      exact ⟨rfl, pw_below_drewN HB5.out n6⟩
/-- Two maps compared. -/
theorem mapSameH {W : World} {g b g2 b2 : Nat} {m v : List Bool} (h : Holds W g b m) (h2 : Holds W g2 b2 v) (hn : m.length ≤ 65534) (hv : v.length ≤ 65534) :
    Calls Try.prog 31 #[.pointer (some ⟨g, 0, none⟩), .pointer (some ⟨g2, 0, none⟩)] W fun e w' => e = .returned (.bool (decide (m = v))) ∧ ∃ k, w' = W.drewN k := by
  obtain ⟨c, cs, hI⟩ := h
  obtain ⟨c2, cs2, hI2⟩ := h2
  have f1 := words_few m hn
  have f2 := words_few v hv
  refine (same_calls hI hI2 (by omega) (by omega) 2000 (decide (wordsOf m = wordsOf v)) (fun e => equal_f _ _ (by omega) (by rw [wordsOf_length, wordsOf_length]; omega) _ (by omega))).mono ?_
  rintro e w' ⟨he, hw⟩
  refine ⟨?_, hw⟩
  rw [he]
  congr 2
  by_cases e : m = v
  · subst e; simp
  · rw [decide_eq_false e]
    by_cases hl : m.length = v.length
    · have : ¬ wordsOf m = wordsOf v := fun h => e (wordsOf_inj hl h)
      simp [this]
    · have : ¬ ((m.length : Int) = (v.length : Int)) := by omega
      simp [this]
theorem nilSame0 (W : World) : Calls Try.prog 31 #[.pointer none, .pointer none] W fun e w' => e = .returned (.bool true) ∧ W = w' := by
  have h1 : ∀ w : World, (binOp .eql 25 (.pointer none) (.pointer none)).run Try.prog w = .ok (.bool true) w := fun w => by go_simp
  go_enter Try.func31, Try.ntmps31
  go_wp2_with fail
  go_ret
  exact ⟨rfl, rfl⟩
theorem nil_ptr (g : Nat) (w : World) : (binOp .eql 25 (.pointer none) (.pointer (some ⟨g, 0, none⟩))).run Try.prog w = .ok (.bool false) w := by
  have h : ∀ d : Nat, (Op.equalIn (d + 1) 25 (.pointer none) (.pointer (some ⟨g, 0, none⟩))).run Try.prog w = .ok false w := fun d => by
    simp [Op.equalIn, run_underlying Try.underlying25]
  simp only [binOp]
  simp [Op.equal, Op.maxDepth, h 9999]
theorem nilSame1 (W : World) (g : Nat) : Calls Try.prog 31 #[.pointer none, .pointer (some ⟨g, 0, none⟩)] W fun e w' => e = .returned (.bool false) ∧ W = w' := by
  have h1 : ∀ w : World, (binOp .eql 25 (.pointer none) (.pointer none)).run Try.prog w = .ok (.bool true) w := fun w => by go_simp
  have h2 := nil_ptr g
  go_enter Try.func31, Try.ntmps31
  go_wp2_with fail
  go_ret
  exact ⟨rfl, rfl⟩
theorem nilSame2 (W : World) (g : Nat) : Calls Try.prog 31 #[.pointer (some ⟨g, 0, none⟩), .pointer none] W fun e w' => e = .returned (.bool false) ∧ W = w' := by
  have h1 : ∀ w : World, (binOp .eql 25 (.pointer none) (.pointer none)).run Try.prog w = .ok (.bool true) w := fun w => by go_simp
  have h2 : ∀ w : World, (binOp .eql 25 (.pointer (some ⟨g, 0, none⟩)) (.pointer none)).run Try.prog w = .ok (.bool false) w := fun w => by go_simp
  go_enter Try.func31, Try.ntmps31
  go_wp2_with fail
  go_ret
  exact ⟨rfl, rfl⟩
end Go.Proofs.Ytcknljndogbbhaa.Bm
