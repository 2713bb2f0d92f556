/- RunFits: the walk through the law function: for every number, every list of blocks and every length it returns true. Conditions: as each lemma says. -/
import Derived.Test.YtcknljndogbbhaaWalkRunFree
namespace Go.Proofs.Ytcknljndogbbhaa.Rn
open Go.RowKit Go.Proofs.Ytcknljndogbbhaa Go.Proofs.Ytcknljndogbbhaa.Bm Go.Proofs.Ytcknljndogbbhaa.PAll Go.Proofs.YtcknljndogbbhaaW.PrintWords Go.Proofs.YtcknljndogbbhaaW.PrintLast Go.Proofs.YtcknljndogbbhaaW.PrintMore
attribute [local go_sem] max2_int min2_int max_two min_two
set_option linter.unusedVariables false
/-- From this block on fewer blocks in a row are free. -/
def Few (m : List Bool) (c : Int) (b : Nat) : Prop := ∃ j : Nat, (j : Int) < c ∧ b + j ≤ m.length ∧ (∀ i, i < j → m.getD (b + i) false = false) ∧ (b + j < m.length → m.getD (b + j) false = true)
theorem fit_step (m : List Bool) (c : Int) (hc : 1 ≤ c) : ∀ d p, p ≤ m.length → m.length < d + p →
    (findFit c (freeR m d p) = (0, 0, false) ∧ ∀ b, p ≤ b → b < m.length → Few m c b) ∨
    ∃ s : Nat, findFit c (freeR m d p) = ((s : Int), c, true) ∧ (s : Int) + c ≤ m.length ∧ (∀ i : Nat, s ≤ i → (i : Int) < s + c → m.getD i false = false) ∧ ∀ b, p ≤ b → b < s → Few m c b
  | 0, p, hp, hd => by omega
  | d + 1, p, hp, hd => by
    rcases freeR_step m d p hp with ⟨_, h2, h3⟩ | ⟨s, e, h1, h2, h3, _, h5, h6, h7, h8⟩
    · refine .inl ⟨by rw [h2]; rfl, fun b hb hl => ⟨0, by omega, by omega, fun i hi => by omega, fun _ => h3 b hb hl⟩⟩
    · have hfew : ¬ c ≤ (e : Int) - s → ∀ b, p ≤ b → b < e → Few m c b := fun hc2 b hb hl => by
        by_cases hbs : b < s
        · exact ⟨0, by omega, by omega, fun i hi => by omega, fun _ => h7 b hb hbs⟩
        · refine ⟨e - b, by omega, by omega, fun i hi => h8 (b + i) (by omega) (by omega), fun hl2 => ?_⟩
          rw [show b + (e - b) = e from by omega] at hl2 ⊢
          rcases h6 with ⟨_, h⟩ | ⟨_, _, h⟩
          · omega
          · exact h
      rw [h5]
      unfold findFit
      by_cases hc2 : c ≤ (e : Int) - s
      · rw [if_pos hc2]
        exact .inr ⟨s, rfl, by omega, fun i a b => h8 i a (by omega), fun b hb hl => ⟨0, by omega, by omega, fun i hi => by omega, fun _ => h7 b hb hl⟩⟩
      · rw [if_neg hc2]
        rcases fit_step m c hc d e h3 (by omega) with ⟨k1, k2⟩ | ⟨s', k1, k2, k3, k4⟩
        · refine .inl ⟨k1, fun b hb hl => ?_⟩
          by_cases hbe : b < e
          · exact hfew hc2 b hb hbe
          · exact k2 b (by omega) hl
        · refine .inr ⟨s', k1, k2, k3, fun b hb hl => ?_⟩
          by_cases hbe : b < e
          · exact hfew hc2 b hb hbe
          · exact k4 b (by omega) hl
theorem range_free (m : List Bool) (s : Nat) (c : Int) (hc : 1 ≤ c) (h : (s : Int) + c ≤ m.length) (hf : ∀ i : Nat, s ≤ i → (i : Int) < s + c → m.getD i false = false) : rangeB m s c = true := by
  unfold rangeB
  rw [decide_eq_true hc, decide_eq_true (by omega : 0 ≤ (s : Int)), decide_eq_true (by omega : (s : Int) < m.length), decide_eq_true (by omega : c ≤ m.length - (s : Int)), Int.toNat_natCast]
  rcases nextB_spec m true (m.length - s) s (by omega) with ⟨k1, _⟩ | ⟨q, k1, k2, k3, k4, _⟩
  · rw [k1]; rfl
  · rw [k3]
    have : ¬ (q : Int) < s + c := fun hq => by
      have := hf q k1 hq
      rw [this] at k4; cases k4
    rw [decide_eq_false this]; simp
theorem fit_law (m : List Bool) (c : Int) (hc : 1 ≤ c) :
    (fitOf m c = (0, 0, false) ∧ ∀ b, b < m.length → Few m c b) ∨ ∃ s : Nat, fitOf m c = ((s : Int), c, true) ∧ s < m.length ∧ rangeB m s c = true ∧ ∀ b, b < s → Few m c b := by
  have hf : fitOf m c = findFit c (runsOf m) := by unfold fitOf; rw [if_neg (by omega)]
  rw [hf]
  rcases fit_step m c hc (m.length + 1) 0 (Nat.zero_le _) (by omega) with ⟨h1, h2⟩ | ⟨s, h1, h2, h3, h4⟩
  · exact .inl ⟨h1, fun b hb => h2 b (Nat.zero_le _) hb⟩
  · exact .inr ⟨s, h1, by omega, range_free m s c hc h2 h3, fun b hb => h4 b (Nat.zero_le _) hb⟩
theorem fits_long (W : World) (n k : Int) (A : Option Addr) (c : Nat) (l : List Int) (hl : 200 < l.length) :
    Calls Try.prog 7 #[.int .u16 n, .slice A l.length c, .int .u8 k] W fun e w' => e = .returned (.bool true) ∧ Below W.heap.size W w' := by
  have d : decide (200 < (l.length : Int)) = true := decide_eq_true (by omega)
  clear hl
  go_enter Try.func7, Try.ntmps7
  go_wp2_with fail
  refine (lives11 _).mono ?_
  rintro e w1 ⟨rfl, hb⟩
  have HB1 := Aside0.mk hb
  clear hb
  go_wp2_with fail
  refine (lives11 _).mono ?_
  rintro e w2 ⟨rfl, hb⟩
  have HB2 := Aside0.mk (below_then HB1.out HB1.out.size hb)
  clear hb
  go_wp2_with fail
  go_ret
  exact ⟨rfl, HB2.out⟩
set_option maxHeartbeats 4000000 in
theorem fits_short (W : World) (n k : Int) (A : Option Addr) (c : Nat) (l : List Int) (hl : l.length ≤ 200) (hn : 0 ≤ n ∧ n < 65536) (hk : 0 ≤ k ∧ k < 256) (hC : Kd.C (Kd.int .u16) W A l.length l) (hr : ∀ x ∈ l, 0 ≤ x ∧ x < 65536) :
    Calls Try.prog 7 #[.int .u16 n, .slice A l.length c, .int .u8 k] W fun e w' => e = .returned (.bool true) ∧ Below W.heap.size W w' := by
  have d : decide (200 < (l.length : Int)) = false := decide_eq_false (by omega)
  have HL := Aside0.mk hl
  have HC := Aside0.mk hC
  have HR := Aside0.mk hr
  have HNN := Aside0.mk hn
  have hn3 : (n % 200).toNat < 200 := by omega
  generalize hN : 1 + (n % 200).toNat = N at hn3
  have HN := Aside0.mk (show N ≤ 200 by omega)
  have HNe := Aside0.mk hN
  obtain ⟨C, hCk⟩ := Int.eq_ofNat_of_zero_le (show 0 ≤ k % 40 by omega)
  have hC3 : C < 40 := by omega
  have et : Int.tmod k 40 = (C : Int) := by rw [Int.tmod_eq_emod_of_nonneg hk.1, hCk]
  have ew : wrap64 (C : Int) = (C : Int) := Math.w64 (by omega) (by omega)
  clear hl hC hr hk hn hn3 hN hCk
  go_enter Try.func7, Try.ntmps7
  go_wp2_with fail
  refine (lives11 _).mono ?_
  rintro e w1 ⟨rfl, hb⟩
  have HB1 := Aside0.mk hb
  have HC1 := Aside0.mk (Kd.C_below HC.out hb)
  clear hb HC
  go_wp2_with fail
  refine (drawH _ n HNN.out A c l HL.out HC1.out HR.out).mono ?_
  rintro e w2 ⟨g, b, v, m, rfl, hH, hlen, hR, hg, hb, hB⟩
  rw [HNe.out] at hlen
  have HM := Aside0.mk (show m.length ≤ 200 by rw [hlen]; exact HN.out)
  have HH2 := Aside0.mk hH
  have HB2 := Aside0.mk (below_then HB1.out HB1.out.size hB)
  have hb2 : W.heap.size ≤ b := by have := HB1.out.size; omega
  have HBb := Aside0.mk hb2
  clear hH hlen hR hg hb hB HC1 HL HR HB1 HN HNe HNN hb2
  go_wp2_with fail
  refine (fitH HH2.out (by have := HM.out; omega) (1 + (C : Int)) (by omega)).mono ?_
  rintro e w3 ⟨rfl, hB3⟩
  have HH3 := Aside0.mk (HH2.out.below hB3)
  have HB3 := Aside0.mk (below_then HB2.out HB2.out.size hB3)
  clear hB3 HH2 HB2
  rcases fit_law m (1 + (C : Int)) (by omega) with ⟨he, hfew⟩ | ⟨s, he, hs, hrg, hfew⟩
  · rw [he]
    have HF := Aside0.mk hfew
    clear he hfew
    go_wp2_with fail
    have HX4 := Aside0.mk (heap_alloc_new w3 (.cells #[.int .i64 0, .int .i64 0] 60))
    have HH4 := Aside0.mk (HH3.out.alloc (.cells #[.int .i64 0, .int .i64 0] 60))
    have HB4 := Aside0.mk (below_alloc HB3.out (.cells #[.int .i64 0, .int .i64 0] 60))
    generalize w3.alloc (.cells #[.int .i64 0, .int .i64 0] 60) = w4 at HX4 HH4 HB4 ⊢
    generalize w3.heap.size = x at HX4 ⊢
    clear HH3 HB3
    refine (lenH HH4.out).mono ?_
    rintro e w5 ⟨rfl, rfl⟩
    go_wp2_with fail
    go_loop [40] (fun v40 => ∃ b : Nat, b ≤ m.length ∧ v40 = .int .i64 b) (fun v40 => m.length - (intOf v40).toNat)
    case atStart => exact ⟨0, Nat.zero_le _, rfl⟩
    case round =>
      obtain ⟨p, hp, rfl⟩ := hrel
      have HM2 := HM.out
      have X0 := cell2_0 HX4.out
      have X1 := cell2_1 HX4.out
      by_cases hlt : p < m.length
      · obtain ⟨j, j1, j2, j3, j4⟩ := HF.out p hlt
        have J3 := Aside0.mk j3
        have J4 := Aside0.mk j4
        clear j3 j4
        go_wp2_with fail
        go_loop [13] (fun v13 => ∃ i : Nat, i ≤ j ∧ v13 = .int .i64 i) (fun v13 => j - (intOf v13).toNat)
        case atStart => exact ⟨0, Nat.zero_le _, rfl⟩
        case round =>
          obtain ⟨i, hi, rfl⟩ := hrel
          have ei : wrap64 ((p : Int) + (i : Int)) = ((p + i : Nat) : Int) := by rw [Math.w64 (by omega) (by omega)]; omega
          by_cases hij : i < j
          · have dl : decide (((p + i : Nat) : Int) < (m.length : Int)) = true := decide_eq_true (by omega)
            have hf := J3.out i hij
            go_wp2_with fail
            refine (lenH HH4.out).mono ?_
            rintro e w5 ⟨rfl, rfl⟩
            go_wp2_with fail
            refine (hasH HH4.out (by omega) ((p + i : Nat) : Int) (by omega) (by omega)).mono ?_
            rintro e w5 ⟨rfl, rfl⟩
            rw [hasAt_nat, hf]
            go_wp2_with fail
            go_round
            case rel => exact ⟨i + 1, by omega, by go_num⟩
            case measure => simp [intOf]; omega
          · obtain rfl : i = j := by omega
            have dg : decide ((1 : Int) + (C : Int) ≤ (i : Int)) = false := decide_eq_false (by omega)
            by_cases hend : p + i < m.length
            · have dl : decide (((p + i : Nat) : Int) < (m.length : Int)) = true := decide_eq_true (by omega)
              have hf := J4.out hend
              go_wp2_with fail
              refine (lenH HH4.out).mono ?_
              rintro e w5 ⟨rfl, rfl⟩
              go_wp2_with fail
              refine (hasH HH4.out (by omega) ((p + i : Nat) : Int) (by omega) (by omega)).mono ?_
              rintro e w5 ⟨rfl, rfl⟩
              rw [hasAt_nat, hf]
              go_wp2_with fail
              go_round
              case rel => exact ⟨p + 1, by omega, by go_num⟩
              case measure => simp [intOf]; omega
            · have dl : decide (((p + i : Nat) : Int) < (m.length : Int)) = false := decide_eq_false (by omega)
              go_wp2_with fail
              refine (lenH HH4.out).mono ?_
              rintro e w5 ⟨rfl, rfl⟩
              go_wp2_with fail
              go_round
              case rel => exact ⟨p + 1, by omega, by go_num⟩
              case measure => simp [intOf]; omega
      · obtain rfl : p = m.length := by omega
        have q1 := eq60 0 0 0 0
        go_wp2_with fail
        go_ret
        exact ⟨by simp, HB4.out⟩
  · rw [he]
    have HF := Aside0.mk hfew
    have HRG := Aside0.mk hrg
    clear he hfew hrg
    go_wp2_with fail
    have HX4 := Aside0.mk (heap_alloc_new w3 (.cells #[.int .i64 s, .int .i64 (1 + (C : Int))] 60))
    have HH4 := Aside0.mk (HH3.out.alloc (.cells #[.int .i64 s, .int .i64 (1 + (C : Int))] 60))
    have HB4 := Aside0.mk (below_alloc HB3.out (.cells #[.int .i64 s, .int .i64 (1 + (C : Int))] 60))
    generalize w3.alloc (.cells #[.int .i64 s, .int .i64 (1 + (C : Int))] 60) = w4 at HX4 HH4 HB4 ⊢
    generalize w3.heap.size = x at HX4 ⊢
    clear HH3 HB3
    refine (lenH HH4.out).mono ?_
    rintro e w5 ⟨rfl, rfl⟩
    go_wp2_with fail
    go_loop [40] (fun v40 => ∃ b : Nat, b ≤ s ∧ v40 = .int .i64 b) (fun v40 => s - (intOf v40).toNat)
    case atStart => exact ⟨0, Nat.zero_le _, rfl⟩
    case round =>
      obtain ⟨p, hp, rfl⟩ := hrel
      have HM2 := HM.out
      have X0 := cell2_0 HX4.out
      have X1 := cell2_1 HX4.out
      by_cases hlt : p < s
      · obtain ⟨j, j1, j2, j3, j4⟩ := HF.out p hlt
        have J3 := Aside0.mk j3
        have J4 := Aside0.mk j4
        clear j3 j4
        have dps : ((p : Int) == (s : Int)) = false := by simp; omega
        go_wp2_with fail
        go_loop [13] (fun v13 => ∃ i : Nat, i ≤ j ∧ v13 = .int .i64 i) (fun v13 => j - (intOf v13).toNat)
        case atStart => exact ⟨0, Nat.zero_le _, rfl⟩
        case round =>
          obtain ⟨i, hi, rfl⟩ := hrel
          have ei : wrap64 ((p : Int) + (i : Int)) = ((p + i : Nat) : Int) := by rw [Math.w64 (by omega) (by omega)]; omega
          by_cases hij : i < j
          · have dl : decide (((p + i : Nat) : Int) < (m.length : Int)) = true := decide_eq_true (by omega)
            have hf := J3.out i hij
            go_wp2_with fail
            refine (lenH HH4.out).mono ?_
            rintro e w5 ⟨rfl, rfl⟩
            go_wp2_with fail
            refine (hasH HH4.out (by omega) ((p + i : Nat) : Int) (by omega) (by omega)).mono ?_
            rintro e w5 ⟨rfl, rfl⟩
            rw [hasAt_nat, hf]
            go_wp2_with fail
            go_round
            case rel => exact ⟨i + 1, by omega, by go_num⟩
            case measure => simp [intOf]; omega
          · obtain rfl : i = j := by omega
            have dg : decide ((1 : Int) + (C : Int) ≤ (i : Int)) = false := decide_eq_false (by omega)
            by_cases hend : p + i < m.length
            · have dl : decide (((p + i : Nat) : Int) < (m.length : Int)) = true := decide_eq_true (by omega)
              have hf := J4.out hend
              go_wp2_with fail
              refine (lenH HH4.out).mono ?_
              rintro e w5 ⟨rfl, rfl⟩
              go_wp2_with fail
              refine (hasH HH4.out (by omega) ((p + i : Nat) : Int) (by omega) (by omega)).mono ?_
              rintro e w5 ⟨rfl, rfl⟩
              rw [hasAt_nat, hf]
              go_wp2_with fail
              go_round
              case rel => exact ⟨p + 1, by omega, by go_num⟩
              case measure => simp [intOf]; omega
            · have dl : decide (((p + i : Nat) : Int) < (m.length : Int)) = false := decide_eq_false (by omega)
              go_wp2_with fail
              refine (lenH HH4.out).mono ?_
              rintro e w5 ⟨rfl, rfl⟩
              go_wp2_with fail
              go_round
              case rel => exact ⟨p + 1, by omega, by go_num⟩
              case measure => simp [intOf]; omega
      · obtain rfl : p = s := by omega
        have dps : ((p : Int) == (p : Int)) = true := by simp
        go_wp2_with fail
        refine (rangeH HH4.out (by omega) (p : Int) (1 + (C : Int)) (by omega) (by omega)).mono ?_
        rintro e w6 ⟨rfl, hH6, hG6⟩
        rw [HRG.out]
        go_wp2_with fail
        go_ret
        exact ⟨by simp, pw_below_grown HB4.out (some b) HB4.out.size hG6 (fun k hk => by cases hk; exact HBb.out)⟩
theorem fits_all (W : World) (n k : Int) (A : Option Addr) (c : Nat) (l : List Int) (hn : 0 ≤ n ∧ n < 65536) (hk : 0 ≤ k ∧ k < 256) (hC : Kd.C (Kd.int .u16) W A l.length l) (hr : ∀ x ∈ l, 0 ≤ x ∧ x < 65536) :
    Calls Try.prog 7 #[.int .u16 n, .slice A l.length c, .int .u8 k] W fun e w' => e = .returned (.bool true) ∧ Below W.heap.size W w' := by
  by_cases hl : l.length ≤ 200
  · exact fits_short W n k A c l hl hn hk hC hr
  · exact fits_long W n k A c l (by omega)
end Go.Proofs.Ytcknljndogbbhaa.Rn
