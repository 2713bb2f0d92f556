/- The document's geometry: its walk. Conditions: as each lemma says. -/
import Derived.Test.YtcankokamleloaaGpM
import Derived.Deep.QuietTactic
import Derived.BigQuiet
import Derived.Handy
namespace Go.Proofs.Ytcankokamleloaa.Gp
open Go.RowKit Go.Proofs.Ytcankokamleloaa.PAll Go.Proofs.YtcankokamleloaaW.PrintWords Go.Proofs.YtcankokamleloaaW.PrintLast Go.Proofs.YtcankokamleloaaW.PrintMore
set_option linter.unusedVariables false
abbrev chainG (P : Nat) : Prop := P = 64 ∨ P = 128 ∨ P = 256 ∨ P = 512 ∨ P = 1024 ∨ P = 2048 ∨ P = 4096
set_option maxHeartbeats 4000000 in
theorem of_wide (n m z : Int) (w : World) (h : ¬ ((1 ≤ n ∧ n ≤ 65534) ∧ (1 ≤ m ∧ m ≤ 65534))) :
    Calls Try.prog 20 #[.int .i64 n, .int .i64 m, .int .i64 z] w fun e w' => e = .returned (.tuple #[.agg #[.int .i64 0, .int .i64 0, .int .i64 0, .int .i64 0, .int .i64 0], .bool false]) ∧ Below w.heap.size w w' := by
  go_enter Try.func20, Try.ntmps20
  by_cases c1 : n < 1
  · have d1 : decide (n < 1) = true := decide_eq_true c1
    clear h
    go_wp2_with fail
    go_returns
    exact ⟨rfl, below_alloc (Below.refl _ _) _⟩
  · have d1 : decide (n < 1) = false := decide_eq_false c1
    by_cases c2 : 65534 < n
    · have d2 : decide (65534 < n) = true := decide_eq_true c2
      clear h
      go_wp2_with fail
      go_returns
      exact ⟨rfl, below_alloc (Below.refl _ _) _⟩
    · have d2 : decide (65534 < n) = false := decide_eq_false c2
      by_cases c3 : m < 1
      · have d3 : decide (m < 1) = true := decide_eq_true c3
        clear h
        go_wp2_with fail
        go_returns
        exact ⟨rfl, below_alloc (Below.refl _ _) _⟩
      · have d3 : decide (m < 1) = false := decide_eq_false c3
        have d4 : decide (65534 < m) = true := decide_eq_true (by omega)
        clear h
        go_wp2_with fail
        go_returns
        exact ⟨rfl, below_alloc (Below.refl _ _) _⟩
set_option maxHeartbeats 4000000 in
set_option maxRecDepth 100000 in
theorem of_narrow (n m z : Int) (b : Bool) (hbz : b = true ↔ (szG z ∧ allG n m z ≤ 4194304)) (w : World) (h : (1 ≤ n ∧ n ≤ 65534) ∧ (1 ≤ m ∧ m ≤ 65534)) :
    Calls Try.prog 20 #[.int .i64 n, .int .i64 m, .int .i64 z] w fun e w' => (e = .returned (.tuple (if b then #[.agg #[.int .i64 16, .int .i64 (slotsG m), .int .i64 (bmG n m), .int .i64 (blG n m), .int .i64 (allG n m z)], .bool true] else #[.agg #[.int .i64 0, .int .i64 0, .int .i64 0, .int .i64 0, .int .i64 0], .bool false]))) ∧ Below w.heap.size w w' := by
  have d1 : decide (n < 1) = false := decide_eq_false (by omega)
  have d2 : decide (65534 < n) = false := decide_eq_false (by omega)
  have d3 : decide (m < 1) = false := decide_eq_false (by omega)
  have d4 : decide (65534 < m) = false := decide_eq_false (by omega)
  have HH := Aside0.mk h
  have HBZ := Aside0.mk hbz
  clear h hbz
  go_enter Try.func20, Try.ntmps20
  go_wp2_with fail
  clear d1 d2 d3 d4
  go_loopw [8] (fun v8 wr => ∃ P : Nat, chainG P ∧ v8 = .int .i64 P ∧ (P = 64 ∨ ((P : Int) / 2 < z)) ∧ wr = w.alloc (.cells #[.int .i64 0, .int .i64 0, .int .i64 0, .int .i64 0, .int .i64 0] 38)) (fun v8 _ => 4096 - (intOf v8).toNat)
  case atStart => exact ⟨64, Or.inl rfl, rfl, Or.inl rfl, rfl⟩
  case round =>
    obtain ⟨P, hc, rfl, hP, rfl⟩ := hrel
    have HCP := Aside0.mk (And.intro hc hP)
    have hb : P ≤ 4096 := by unfold chainG at hc; omega
    by_cases hg : P < 4096 ∧ (P : Int) < z
    · have d1 : decide ((P : Int) < 4096) = true := decide_eq_true (by omega)
      have d2 : decide ((P : Int) < z) = true := decide_eq_true (by omega)
      clear hc hP hg
      go_wp2_with fail
      have hc := HCP.out.1
      have hlt := of_decide_eq_true d1
      have hlz := of_decide_eq_true d2
      go_roundw
      case rel => exact ⟨2 * P, by unfold chainG at *; omega, by go_num, Or.inr (by omega), trivial⟩
      case measure => simp [intOf]; unfold chainG at hc; omega
    · have hge : (z : Int) ≤ P ∨ P = 4096 := by omega
      by_cases hPz : (P : Int) = z
      · subst hPz
        have d1 : decide ((P : Int) < (P : Int)) = false := decide_eq_false (by omega)
        have d2 : ((P : Int) != (P : Int)) = false := by simp
        have hsz : szG (P : Int) := by unfold szG; unfold chainG at hc; omega
        have HSZ := Aside0.mk hsz
        have hh := HH.out
        have e8 : IntKind.i64.wrap (8 * m) = 8 * m := by rw [IntKind.wrap_i64]; omega
        have e16 : IntKind.i64.wrap (16 + 8 * m) = slotsG m := by unfold slotsG; rw [IntKind.wrap_i64]; omega
        have hsp := sz_pos hsz
        have hbm := bm_range n m hh
        have hbw := bw_range n hh.1
        have hbl := bl_range n m hh
        have hpr := prod_range n (P : Int) hh.1 hsp
        obtain ⟨k1, q1⟩ := fill_f (slotsG m + n) (by unfold slotsG; omega) (by unfold slotsG; omega)
        obtain ⟨k2, q2⟩ := fill_f (bmG n m + bwG n) (by omega) (by omega)
        have l1 : linesG (slotsG m + n) = bmG n m := by unfold bmG linesG slotsG; omega
        have l2 : linesG (bmG n m + bwG n) = blG n m := by unfold blG linesG; omega
        rw [l1] at q1
        rw [l2] at q2
        have Q1 := Aside0.mk (q1 k1 (Nat.le_refl _))
        have Q2 := Aside0.mk (q2 k2 (Nat.le_refl _))
        have a1 := Aside0.mk (show wrap64 (slotsG m + n) = slotsG m + n from Math.w64 (by unfold slotsG; omega) (by unfold slotsG; omega))
        have a2 := Aside0.mk (show wrap64 (bmG n m + bwG n) = bmG n m + bwG n from Math.w64 (by omega) (by omega))
        have e63 : IntKind.i64.wrap (n + 63) = n + 63 := by rw [IntKind.wrap_i64]; omega
        have e64 : Int.tdiv (n + 63) 64 = bwG n := by unfold bwG; rw [Int.tdiv_eq_ediv_of_nonneg (by omega)]
        have e65 : IntKind.i64.wrap (bwG n) = bwG n := by rw [IntKind.wrap_i64]; omega
        have en : n * (P : Int) = 8 * (n * ((P : Int) / 8)) := by
          have ez : (P : Int) = 8 * ((P : Int) / 8) := by unfold szG at hsz; omega
          conv => lhs; rw [ez]
          rw [← Int.mul_assoc, Int.mul_comm n 8, Int.mul_assoc]
        have eA : allG n m (P : Int) = blG n m + n * ((P : Int) / 8) := rfl
        have e70 : IntKind.i64.wrap (n * (P : Int)) = n * (P : Int) := by rw [IntKind.wrap_i64, en]; omega
        have e71 : Int.tdiv (n * (P : Int)) 8 = n * ((P : Int) / 8) := by rw [Int.tdiv_eq_ediv_of_nonneg (by rw [en]; omega), en]; omega
        have e72 : IntKind.i64.wrap (n * ((P : Int) / 8)) = n * ((P : Int) / 8) := by rw [IntKind.wrap_i64]; omega
        have e73 : IntKind.i64.wrap (blG n m + n * ((P : Int) / 8)) = allG n m (P : Int) := by rw [eA, IntKind.wrap_i64]; omega
        generalize n * ((P : Int) / 8) = V at e71 e72 e73
        obtain ⟨al, hAL⟩ : ∃ x, allG n m (P : Int) = x := ⟨_, rfl⟩
        rw [hAL] at e73
        have HBZ' := Aside0.mk HBZ.out
        rw [hAL] at HBZ'
        have HAL := Aside0.mk hAL
        clear hAL
        clear q1 q2 l1 l2 hbm hbw hbl hpr en hc hP hg hge hsz hh hsp eA
        obtain ⟨b4, d4⟩ : ∃ x, decide ((P : Int) < 4096) = x := ⟨_, rfl⟩
        by_cases hal : al ≤ 4194304
        · have dal : decide (4194304 < al) = false := decide_eq_false (by omega)
          have hb1 : b = true := HBZ'.out.2 ⟨HSZ.out, hal⟩
          subst hb1
          clear hal
          rcases b4 with _ | _
          all_goals (
            go_wp2_with fail
            rw [a1.out]
            refine (cantleref04_fill.calls k1 _ _ _ Q1.out).mono ?_
            rintro e w1 ⟨rfl, n1, rfl⟩
            go_wp2_with fail
            rw [a2.out]
            refine (cantleref04_fill.calls k2 _ _ _ Q2.out).mono ?_
            rintro e w2 ⟨rfl, n2, rfl⟩
            go_wp2_with fail
            go_returns
            (try rw [HAL.out])
            refine ⟨by with_reducible rfl, ?_⟩
            repeat (with_reducible first | exact Below.refl _ _ | apply below_alloc | apply pw_below_drewN | (refine Below.setCell ?_ (by simp) _)))
        · have dal : decide (4194304 < al) = true := decide_eq_true (by omega)
          have hb1 : b = false := by
            rcases b with _ | _
            · rfl
            · exact absurd (HBZ'.out.1 rfl).2 hal
          subst hb1
          clear hal
          rcases b4 with _ | _
          all_goals (
            go_wp2_with fail
            rw [a1.out]
            refine (cantleref04_fill.calls k1 _ _ _ Q1.out).mono ?_
            rintro e w1 ⟨rfl, n1, rfl⟩
            go_wp2_with fail
            rw [a2.out]
            refine (cantleref04_fill.calls k2 _ _ _ Q2.out).mono ?_
            rintro e w2 ⟨rfl, n2, rfl⟩
            go_wp2_with fail
            go_returns
            (try rw [HAL.out])
            refine ⟨by with_reducible rfl, ?_⟩
            repeat (with_reducible first | exact Below.refl _ _ | apply below_alloc | apply pw_below_drewN | (refine Below.setCell ?_ (by simp) _)))
      · have d2 : ((P : Int) != z) = true := by rw [bne_iff_ne]; exact hPz
        have d3 : ((P : Int) = z) = False := eq_false hPz
        have hb0 : b = false := by
          rcases b with _ | _
          · rfl
          · have := (HBZ.out.1 rfl).1
            unfold szG at this
            unfold chainG at hc
            omega
        subst hb0
        by_cases h4 : P = 4096
        · subst h4
          clear hc hP hg hge hPz
          go_wp2_with fail
          go_returns
          exact ⟨rfl, below_alloc (Below.refl _ _) _⟩
        · have d1 : decide ((P : Int) < z) = false := decide_eq_false (by omega)
          have d4 : decide ((P : Int) < 4096) = true := decide_eq_true (by omega)
          clear hc hP hg hge hPz
          go_wp2_with fail
          go_returns
          exact ⟨rfl, below_alloc (Below.refl _ _) _⟩
theorem of_yes (n m z : Int) (w : World) (h : mayG n m z) :
    Calls Try.prog 20 #[.int .i64 n, .int .i64 m, .int .i64 z] w fun e w' => e = .returned (.tuple #[.agg #[.int .i64 16, .int .i64 (slotsG m), .int .i64 (bmG n m), .int .i64 (blG n m), .int .i64 (allG n m z)], .bool true]) ∧ Below w.heap.size w w' :=
  of_narrow n m z true ⟨fun _ => ⟨h.1.2.2, h.2⟩, fun _ => rfl⟩ w ⟨h.1.1, h.1.2.1⟩
theorem of_no (n m z : Int) (w : World) (h : ¬ mayG n m z) :
    Calls Try.prog 20 #[.int .i64 n, .int .i64 m, .int .i64 z] w fun e w' => e = .returned (.tuple #[.agg #[.int .i64 0, .int .i64 0, .int .i64 0, .int .i64 0, .int .i64 0], .bool false]) ∧ Below w.heap.size w w' := by
  by_cases hn : (1 ≤ n ∧ n ≤ 65534) ∧ (1 ≤ m ∧ m ≤ 65534)
  · exact of_narrow n m z false ⟨(fun e => by cases e), (fun e => absurd ⟨⟨hn.1, hn.2, e.1⟩, e.2⟩ h)⟩ w hn
  · exact of_wide n m z w hn
end Go.Proofs.Ytcankokamleloaa.Gp
