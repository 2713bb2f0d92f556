-- Laid by a program of this session (wip/tools), out of the translation; proved by Lean.
import Derived.Test.YtdcljkdbdjbjiaaPCrcSumsx0
namespace Go.Proofs.Ytdcljkdbdjbjiaa.PCrcSums
open Go.RowKit Go.Proofs.YtdcljkdbdjbjiaaW.PrintWords Go.Proofs.YtdcljkdbdjbjiaaW.PrintLast Go.Proofs.YtdcljkdbdjbjiaaW.PrintMore
attribute [local go_sem] max2_int min2_int max_two min_two max_three min_three max_four min_four   -- for this text's walks alone
set_option linter.unusedVariables false
set_option linter.unusedSimpArgs false

/-! ### cantleref02_Sum16: function 22 -/
def cantleref02_Sum16.l0 : Nat → ByteArray → Int → Int → Option (Int)
  | 0, _, _, _ => none
  | k + 1, x0, x3, x4 => if x4 < (wrap64 (8 * (x0.size : Int))) then (if 0 ≤ (wrap64 (Int.tdiv x4 8)) then (if (wrap64 (Int.tdiv x4 8)) < (x0.size : Int) then (if 0 ≤ (wrap64 (7 - (Int.tmod x4 8))) then (if (Go.bits .and .u16 (IntKind.u16.wrap (shr .u8 (bt x0 (wrap64 (Int.tdiv x4 8))) (wrap64 (7 - (Int.tmod x4 8))))) 1) = (IntKind.u16.wrap (Int.tdiv x3 32768)) then (cantleref02_Sum16.l0 k x0 (IntKind.u16.wrap (x3 * 2)) (wrap64 (x4 + 1))) else (cantleref02_Sum16.l0 k x0 (Go.bits .xor .u16 (IntKind.u16.wrap (x3 * 2)) 4129) (wrap64 (x4 + 1)))) else (none)) else (none)) else (none)) else (some x3)
def cantleref02_Sum16.f (k : Nat) (a0 : ByteArray) : Option (Int) := cantleref02_Sum16.l0 k a0 65535 0
theorem cantleref02_Sum16.mono_l : ∀ k, (∀ y0 y1 y2, LeO (cantleref02_Sum16.l0 k y0 y1 y2) (cantleref02_Sum16.l0 (k + 1) y0 y1 y2))
  | 0 => fun _ _ _ r h => by simp [cantleref02_Sum16.l0] at h
  | k + 1 => by
    have ih0 := cantleref02_Sum16.mono_l k
    · intro y0 y1 y2
      unfold cantleref02_Sum16.l0
      repeat' first
      | (with_reducible exact ih0 _ _ _)
      | (with_reducible exact LeO.refl _)
      | (with_reducible exact LeO.none _)
      | (with_reducible refine LeO.ite ?_ ?_)
      | (with_reducible refine LeO.bind ?_ (fun _ => ?_))
      | exact ih0 _ _ _
      | exact LeO.none _
      | refine LeO.ite ?_ ?_
      | refine LeO.bind ?_ (fun _ => ?_)
theorem cantleref02_Sum16.mono : ∀ a0 k, LeO (cantleref02_Sum16.f k a0) (cantleref02_Sum16.f (k + 1) a0) := by
  intro a0 k
  have ih0 := cantleref02_Sum16.mono_l k
  unfold cantleref02_Sum16.f
  repeat' first
      | (with_reducible exact ih0 _ _ _)
      | (with_reducible exact LeO.refl _)
      | (with_reducible exact LeO.none _)
      | (with_reducible refine LeO.ite ?_ ?_)
      | (with_reducible refine LeO.bind ?_ (fun _ => ?_))
      | exact ih0 _ _ _
      | exact LeO.none _
      | refine LeO.ite ?_ ?_
      | refine LeO.bind ?_ (fun _ => ?_)
set_option maxHeartbeats 8000000 in
set_option maxRecDepth 100000 in
theorem cantleref02_Sum16.calls (k : Nat) (a0 : ByteArray) (r : Int) (w : World) (h : cantleref02_Sum16.f k a0 = some r) :
    Calls Try.prog 22 #[.string a0] w fun e w' => e = .returned (.int .u16 r) ∧ Drawn0 w w' := by
  have H : (cantleref02_Sum16.l0 k a0 65535 0) = some r := h
  clear h
  have H' := Aside0.mk H
  clear H
  go_enter Try.func22, Try.ntmps22
  go_wp2
  go_loopg [3, 4] k (fun kq v3 v4 w' => ∃ (x3_1 : Int) (x4_1 : Int), v3 = .int .u16 x3_1 ∧ v4 = .int .i64 x4_1 ∧ Aside0 (cantleref02_Sum16.l0 kq a0 x3_1 x4_1 = some r) ∧ Aside0 (kq ≤ k) ∧ Drawn0 w w')
  case atStart => exact ⟨(65535), (0), (by first | rfl | (simp; done) | (simp [*]; done)), (by first | rfl | (simp; done) | (simp [*]; done)), H', ⟨Nat.le_refl _⟩, by repeat (first | exact Drawn0.refl _ | apply Drawn0.step)⟩
  case round =>
    clear H'
    obtain ⟨x3_1, x4_1, rfl, rfl, HA, HK1, ⟨m1, rfl⟩⟩ := hrel
    cases gk with
    | zero => exact absurd HA.out (by simp [cantleref02_Sum16.l0])
    | succ k1 =>
      have H := HA.out
      clear HA
      simp only [cantleref02_Sum16.l0] at H
      by_cases c2 : x4_1 < (wrap64 (8 * (a0.size : Int)))
      · rw [if_pos c2] at H
        have c2b0 : decide (x4_1 < (wrap64 (8 * (a0.size : Int)))) = true := decide_eq_true c2
        clear c2
        obtain ⟨ji3, hji3⟩ : ∃ j_ : Int, (wrap64 (Int.tdiv x4_1 8)) = j_ := ⟨_, rfl⟩
        replace H : (if 0 ≤ (ji3) then (if (ji3) < (a0.size : Int) then (if 0 ≤ (wrap64 (7 - (Int.tmod x4_1 8))) then (if (Go.bits .and .u16 (IntKind.u16.wrap (shr .u8 (bt a0 (ji3)) (wrap64 (7 - (Int.tmod x4_1 8))))) 1) = (IntKind.u16.wrap (Int.tdiv x3_1 32768)) then (cantleref02_Sum16.l0 k1 a0 (IntKind.u16.wrap (x3_1 * 2)) (wrap64 (x4_1 + 1))) else (cantleref02_Sum16.l0 k1 a0 (Go.bits .xor .u16 (IntKind.u16.wrap (x3_1 * 2)) 4129) (wrap64 (x4_1 + 1)))) else (none)) else (none)) else (none)) = some r := by first | (rw [hji3] at H; exact H) | (simp only [hji3] at H ⊢; exact H)
        have hji3w : (IntKind.i64.wrap (Int.tdiv x4_1 8)) = ji3 := (i64_w _).trans hji3
        by_cases c4 : 0 ≤ (ji3)
        · rw [if_pos c4] at H
          have c4b0 : decide (0 ≤ (ji3)) = true := decide_eq_true c4
          clear c4
          by_cases c5 : (ji3) < (a0.size : Int)
          · rw [if_pos c5] at H
            have c5b0 : decide ((ji3) < (a0.size : Int)) = true := decide_eq_true c5
            clear c5
            obtain ⟨ji7, hji7⟩ : ∃ j_ : Int, (wrap64 (7 - (Int.tmod x4_1 8))) = j_ := ⟨_, rfl⟩
            replace H : (if 0 ≤ (ji7) then (if (Go.bits .and .u16 (IntKind.u16.wrap (shr .u8 (bt a0 (ji3)) (ji7))) 1) = (IntKind.u16.wrap (Int.tdiv x3_1 32768)) then (cantleref02_Sum16.l0 k1 a0 (IntKind.u16.wrap (x3_1 * 2)) (wrap64 (x4_1 + 1))) else (cantleref02_Sum16.l0 k1 a0 (Go.bits .xor .u16 (IntKind.u16.wrap (x3_1 * 2)) 4129) (wrap64 (x4_1 + 1)))) else (none)) = some r := by first | (rw [hji7] at H; exact H) | (simp only [hji7] at H ⊢; exact H)
            have hji7w : (IntKind.i64.wrap (7 - (Int.tmod x4_1 8))) = ji7 := (i64_w _).trans hji7
            by_cases c8 : 0 ≤ (ji7)
            · rw [if_pos c8] at H
              have c8b0 := eq_true c8
              have c8b1 : decide (0 ≤ (ji7)) = true := decide_eq_true c8
              clear c8
              obtain ⟨ji9, hji9⟩ : ∃ j_ : Int, (shr .u8 (bt a0 (ji3)) (ji7)) = j_ := ⟨_, rfl⟩
              replace H : (if (Go.bits .and .u16 (IntKind.u16.wrap (ji9)) 1) = (IntKind.u16.wrap (Int.tdiv x3_1 32768)) then (cantleref02_Sum16.l0 k1 a0 (IntKind.u16.wrap (x3_1 * 2)) (wrap64 (x4_1 + 1))) else (cantleref02_Sum16.l0 k1 a0 (Go.bits .xor .u16 (IntKind.u16.wrap (x3_1 * 2)) 4129) (wrap64 (x4_1 + 1)))) = some r := by first | (rw [hji9] at H; exact H) | (simp only [hji9] at H ⊢; exact H)
              have hji9_ : ((bt a0 (ji3)) / 2 ^ min (ji7).toNat 8) = ji9 := hji9
              have hji9z : (ji7) ≤ 8 → ((bt a0 (ji3)) / 2 ^ (ji7).toNat) = ji9 := shr_small hji9
              by_cases c10 : (Go.bits .and .u16 (IntKind.u16.wrap (ji9)) 1) = (IntKind.u16.wrap (Int.tdiv x3_1 32768))
              · rw [if_pos c10] at H
                have c10b0 : ((Go.bits .and .u16 (IntKind.u16.wrap (ji9)) 1) == (IntKind.u16.wrap (Int.tdiv x3_1 32768))) = true := beq_iff_eq.mpr c10
                have c10b1 : ((Go.bits .and .u16 (IntKind.u16.wrap (ji9)) 1) != (IntKind.u16.wrap (Int.tdiv x3_1 32768))) = false := bne_eq_false_iff_eq.mpr c10
                clear c10
                have H' := Aside0.mk H
                clear H
                have p6 : 0 ≤ ((ji3) : Int) := of_decide_eq_true (by first | (with_reducible assumption) | assumption)
                have q6 : (ji3) < (a0.size : Int) := of_decide_eq_true (by first | (with_reducible assumption) | assumption)
                have hx6 := bt_at a0 (ji3)
                replace p6 := eq_true p6
                replace q6 := eq_true q6
                go_wp2
                go_roundg k1
                case measure => have := HK1.out; omega
                case rel => exact ⟨(IntKind.u16.wrap (x3_1 * 2)), (wrap64 (x4_1 + 1)), (by first | rfl | (simp; done) | (simp [*]; done)), (by first | rfl | (simp; done) | (simp [*]; done)), H', ⟨by have := HK1.out; omega⟩, by repeat (first | exact Drawn0.refl _ | apply Drawn0.step)⟩
              · rw [if_neg c10] at H
                have c10b0 : ((Go.bits .and .u16 (IntKind.u16.wrap (ji9)) 1) == (IntKind.u16.wrap (Int.tdiv x3_1 32768))) = false := beq_eq_false_iff_ne.mpr c10
                have c10b1 : ((Go.bits .and .u16 (IntKind.u16.wrap (ji9)) 1) != (IntKind.u16.wrap (Int.tdiv x3_1 32768))) = true := bne_iff_ne.mpr c10
                have H' := Aside0.mk H
                clear H
                have p6 : 0 ≤ ((ji3) : Int) := of_decide_eq_true (by first | (with_reducible assumption) | assumption)
                have q6 : (ji3) < (a0.size : Int) := of_decide_eq_true (by first | (with_reducible assumption) | assumption)
                have hx6 := bt_at a0 (ji3)
                replace p6 := eq_true p6
                replace q6 := eq_true q6
                go_wp2
                go_roundg k1
                case measure => have := HK1.out; omega
                case rel => exact ⟨(Go.bits .xor .u16 (IntKind.u16.wrap (x3_1 * 2)) 4129), (wrap64 (x4_1 + 1)), (by first | rfl | (simp; done) | (simp [*]; done)), (by first | rfl | (simp; done) | (simp [*]; done)), H', ⟨by have := HK1.out; omega⟩, by repeat (first | exact Drawn0.refl _ | apply Drawn0.step)⟩
            · rw [if_neg c8] at H
              exact absurd H (by simp)
          · rw [if_neg c5] at H
            exact absurd H (by simp)
        · rw [if_neg c4] at H
          exact absurd H (by simp)
      · rw [if_neg c2] at H
        have c2b0 : decide (x4_1 < (wrap64 (8 * (a0.size : Int)))) = false := decide_eq_false c2
        clear c2
        obtain rfl := Option.some.inj H
        go_wp2
        go_ret
        exact ⟨by first | rfl | (simp; done) | (simp [*]; done), by repeat (first | exact Drawn0.refl _ | apply Drawn0.step)⟩

-- NOT PRINTED: function 6 (cantlelaw02_CrcSums)

end Go.Proofs.Ytdcljkdbdjbjiaa.PCrcSums
