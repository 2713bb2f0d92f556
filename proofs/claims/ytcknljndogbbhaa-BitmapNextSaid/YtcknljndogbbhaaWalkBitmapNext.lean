/- BitmapNext: the walk through the law function: for every number, every list of blocks and either truth it returns true. Conditions: as each lemma says. -/
import Derived.Test.YtcknljndogbbhaaBmP
import Derived.Test.YtcknljndogbbhaaBmL
namespace Go.Proofs.Ytcknljndogbbhaa.Bm
open Go.RowKit Go.Proofs.Ytcknljndogbbhaa Go.Proofs.Ytcknljndogbbhaa.PAll Go.Proofs.YtcknljndogbbhaaW.PrintWords Go.Proofs.YtcknljndogbbhaaW.PrintLast Go.Proofs.YtcknljndogbbhaaW.PrintMore
attribute [local go_sem] max2_int min2_int max_two min_two
set_option linter.unusedVariables false
/-- A row that came in lies below what is new. -/
theorem arg_lt {k : IntKind} {W : World} {A : Option Addr} {l : List Int} (h : Kd.C (Kd.int k) W A l.length l) : ∀ ad, A = some ad → 0 < l.length → ad.block < W.heap.size := by
  intro ad e hl
  obtain ⟨ad', e', hc⟩ := C_at h 0 hl
  cases e.symm.trans e'
  have := World.block_lt_of_cell? W (ad.add 0) hc
  simpa [Addr.add] using this
theorem next_long (W : World) (n : Int) (used : Bool) (A : Option Addr) (c : Nat) (l : List Int) (hl : 200 < l.length) :
    Calls Try.prog 3 #[.int .u16 n, .slice A l.length c, .bool used] W fun e w' => e = .returned (.bool true) ∧ Below W.heap.size W w' := by
  have d : decide (200 < (l.length : Int)) = true := decide_eq_true (by omega)
  clear hl
  go_enter Try.func3, Try.ntmps3
  go_wp2_with fail
  refine (lives_calls _).mono ?_
  rintro e w1 ⟨rfl, hb⟩
  have HB1 := Aside0.mk hb
  clear hb
  go_wp2_with fail
  refine (lives_calls _).mono ?_
  rintro e w2 ⟨rfl, hb⟩
  have HB2 := Aside0.mk (below_then HB1.out HB1.out.size hb)
  clear hb
  go_wp2_with fail
  go_ret
  exact ⟨rfl, HB2.out⟩
set_option maxHeartbeats 2000000 in
theorem next_short (W : World) (n : Int) (used : Bool) (A : Option Addr) (c : Nat) (l : List Int) (hl : l.length ≤ 200) (hn : 0 ≤ n ∧ n < 65536) (hC : Kd.C (Kd.int .i64) W A l.length l) (hr : ∀ x ∈ l, -9223372036854775808 ≤ x ∧ x ≤ 9223372036854775807) :
    Calls Try.prog 3 #[.int .u16 n, .slice A l.length c, .bool used] W fun e w' => e = .returned (.bool true) ∧ Below W.heap.size W w' := by
  have d : decide (200 < (l.length : Int)) = false := decide_eq_false (by omega)
  have HL := Aside0.mk hl
  have HC := Aside0.mk hC
  have HR := Aside0.mk hr
  obtain ⟨N, hN⟩ := Int.eq_ofNat_of_zero_le (show 0 ≤ n % 300 by omega)
  have hN3 : N < 300 := by omega
  have et : Int.tmod n 300 = (N : Int) := by rw [Int.tmod_eq_emod_of_nonneg hn.1, hN]
  have ew : wrap64 (N : Int) = (N : Int) := Math.w64 (by omega) (by omega)
  have hcl : clampN (N : Int) = N := by unfold clampN; (repeat' split) <;> omega
  have HCL := Aside0.mk hcl
  clear hl hC hr hcl hn
  go_enter Try.func3, Try.ntmps3
  go_wp2_with fail
  refine (lives_calls _).mono ?_
  rintro e w1 ⟨rfl, hb⟩
  have HB1 := Aside0.mk hb
  have HC1 := Aside0.mk (Kd.C_below HC.out hb)
  clear hb HC
  go_wp2_with fail
  refine (newH _ _).mono ?_
  rintro e w2 ⟨g, b, rfl, hH, hg, hb, hB⟩
  rw [HCL.out] at hH
  have HH2 := Aside0.mk hH
  have HB2 := Aside0.mk (below_then HB1.out HB1.out.size hB)
  have HC2 := Aside0.mk (Kd.C_below HC1.out hB)
  have hlt := arg_lt HC1.out
  have hbb : W.heap.size ≤ b := Nat.le_trans HB1.out.size hb
  have HA := Aside0.mk (show ∀ ad, A = some ad → 0 < l.length → ad.block ≠ b from fun ad e h => by have := hlt ad e h; omega)
  clear hH hB hlt HC1 HB1 HCL
  go_wp2_with fail
  refine (putH HH2.out (by simp; omega) A c l HC2.out HA.out (by have := HL.out; omega) HR.out).mono ?_
  rintro e w3 ⟨rfl, hH, hG, hS⟩
  have hlen := turnB_length false (List.replicate N false) l
  rw [List.length_replicate] at hlen
  generalize (turnB false (List.replicate N false) l).1 = m at hH hlen
  generalize (turnB false (List.replicate N false) l).2 = kk
  have HH3 := Aside0.mk hH
  have HB3 := Aside0.mk (pw_below_grown HB2.out (some b) HB2.out.size hG (fun k hk => by cases hk; exact hbb))
  have HLEN := Aside0.mk hlen
  clear hH hG hS HH2 HB2 HC2 HA HL HR hlen hg hb hbb
  go_wp2_with fail
  refine (nextH HH3.out (by have := HLEN.out; omega) 0 used (by omega) (by omega)).mono ?_
  rintro e w4 ⟨rfl, rfl⟩
  go_wp2_with fail
  go_loopg [8, 9] N (fun gk v8 v9 w' => ∃ p : Nat, gk + p = N ∧ Aside0 (Holds w' g b m) ∧ Aside0 (Below W.heap.size W w') ∧ v8 = .int .i64 (sumB (isU m used) p : Nat) ∧ v9 = .int .i64 (nextB m used (N - p) p))
  case atStart => exact ⟨0, rfl, HH3, HB3, rfl, by rw [HLEN.out]; rfl⟩
  case round =>
    obtain ⟨p, hp, HHr, HBr, rfl, rfl⟩ := hrel
    have hsp := nextB_spec m used (N - p) p (by have := HLEN.out; omega)
    rw [HLEN.out] at hsp
    have hle := sumB_le (isU m used) p
    rcases hsp with ⟨h1, h2⟩ | ⟨q, h1, h2, h3, h4, h5⟩
    · have hs : sumB (isU m used) N = sumB (isU m used) p := sum_flat p N (by omega) (fun i a b => h2 i a b)
      rw [h1]
      have HS := Aside0.mk hs
      clear h1 h2 hs
      cases used
      · go_wp2_with fail
        refine (freeH HHr.out (by have := HLEN.out; omega)).mono ?_
        rintro e w5 ⟨rfl, n5, rfl⟩
        have he : ((sumB (isU m false) p : Nat) : Int) = (m.length : Int) - ((m.count true : Nat) : Int) := by
          have h1 := sum_false m
          rw [HLEN.out, HS.out] at h1
          have := List.count_le_length (a := true) (l := m)
          have := HLEN.out
          omega
        rw [he]
        go_wp2_with fail
        go_ret
        exact ⟨by simp, pw_below_drewN HBr.out n5⟩
      · go_wp2_with fail
        refine (countH HHr.out (by have := HLEN.out; omega)).mono ?_
        rintro e w5 ⟨rfl, rfl⟩
        have he : sumB (isU m true) p = m.count true := by
          have h1 := sum_true m
          rw [HLEN.out, HS.out] at h1
          exact h1
        rw [he]
        go_wp2_with fail
        go_ret
        exact ⟨by simp, HBr.out⟩
    · have hs : sumB (isU m used) (q + 1) = sumB (isU m used) p + 1 := by
        simp only [sumB]
        rw [sum_flat (f := isU m used) p q h1 (fun i a b => h5 i a b)]
        have : isU m used q = true := h4
        rw [this]; rfl
      have hh : hasAt m (q : Int) = used := by rw [hasAt_nat]; simpa using h4
      rw [h3]
      have HS := Aside0.mk hs
      have HH := Aside0.mk hh
      have d0 : (used == used) = true := by simp
      have d1 : (used != used) = false := by simp
      clear h3 h4 h5 hs hh
      obtain ⟨gk', rfl⟩ : ∃ x, gk = x + (q + 1 - p) := ⟨gk - (q + 1 - p), by omega⟩
      go_wp2_with fail
      refine (hasH HHr.out (by have := HLEN.out; omega) (q : Int) (by omega) (by omega)).mono ?_
      rintro e w5 ⟨rfl, rfl⟩
      rw [HH.out]
      go_wp2_with fail
      refine (nextH HHr.out (by have := HLEN.out; omega) ((q : Int) + 1) used (by omega) (by omega)).mono ?_
      rintro e w5 ⟨rfl, rfl⟩
      go_wp2_with fail
      go_roundg gk'
      case measure => omega
      case rel => exact ⟨q + 1, by omega, HHr, HBr, by rw [HS.out]; go_num, by rw [HLEN.out]⟩
theorem next_all (W : World) (n : Int) (used : Bool) (A : Option Addr) (c : Nat) (l : List Int) (hn : 0 ≤ n ∧ n < 65536) (hC : Kd.C (Kd.int .i64) W A l.length l) (hr : ∀ x ∈ l, -9223372036854775808 ≤ x ∧ x ≤ 9223372036854775807) :
    Calls Try.prog 3 #[.int .u16 n, .slice A l.length c, .bool used] W fun e w' => e = .returned (.bool true) ∧ Below W.heap.size W w' := by
  by_cases hl : l.length ≤ 200
  · exact next_short W n used A c l hl hn hC hr
  · exact next_long W n used A c l (by omega)
end Go.Proofs.Ytcknljndogbbhaa.Bm
