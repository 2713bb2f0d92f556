/- The map in memory: a struct of a number and of words; what its reading methods tell. Conditions: as each lemma says. -/
import Derived.Test.YtcknljndogbbhaaPAllx
import Derived.Test.YtcknljndogbbhaaMath
namespace Go.Proofs.Ytcknljndogbbhaa.Bm
open Go.RowKit Go.Proofs.Ytcknljndogbbhaa.PAll Go.Proofs.YtcknljndogbbhaaW.PrintWords Go.Proofs.YtcknljndogbbhaaW.PrintLast Go.Proofs.YtcknljndogbbhaaW.PrintMore
attribute [local go_sem] max2_int min2_int max_two min_two
set_option linter.unusedVariables false
/-- A map: its struct is block g, its words are block b. -/
structure Is (W : World) (g b : Nat) (n : Int) (ws : List Int) (c : Nat) (cs : Array Value) : Prop where
  st : W.heap[g]? = some (.cells #[.int .i64 n, .slice (some ⟨b, 0, none⟩) ws.length c] 85 (0, 0))
  bl : W.heap[b]? = some (.cells cs 39 (0, 0))
  at_ : ∀ i, i < ws.length → cs[i]? = some (.int .u64 (rd ws i))
  le : ws.length ≤ c
theorem Is.keep {W W' : World} {g b : Nat} {n : Int} {ws : List Int} {c : Nat} {cs : Array Value} (h : Is W g b n ws c cs) (hg : W'.heap[g]? = W.heap[g]?) (hb : W'.heap[b]? = W.heap[b]?) : Is W' g b n ws c cs :=
  ⟨hg.trans h.st, hb.trans h.bl, h.at_, h.le⟩
theorem Is.ne {W : World} {g b : Nat} {n : Int} {ws : List Int} {c : Nat} {cs : Array Value} (h : Is W g b n ws c cs) : g ≠ b := by
  rintro rfl
  have := h.st.symm.trans h.bl
  simp at this
theorem Is.c0 {W : World} {g b : Nat} {n : Int} {ws : List Int} {c : Nat} {cs : Array Value} (h : Is W g b n ws c cs) : W.cell? ⟨g, 0, none⟩ = some (.int .i64 n) := by
  rw [blk_cell h.st]; rfl
theorem Is.c1 {W : World} {g b : Nat} {n : Int} {ws : List Int} {c : Nat} {cs : Array Value} (h : Is W g b n ws c cs) : W.cell? ⟨g, 1, none⟩ = some (.slice (some ⟨b, 0, none⟩) ws.length c) := by
  rw [blk_cell h.st]; rfl
theorem Is.w {W : World} {g b : Nat} {n : Int} {ws : List Int} {c : Nat} {cs : Array Value} (h : Is W g b n ws c cs) (i : Nat) (hi : i < ws.length) : W.cell? ⟨b, i, none⟩ = some (.int .u64 (rd ws i)) := by
  rw [blk_cell h.bl, h.at_ i hi]
/-- Is the block's bit set? -/
def hasW (n : Int) (ws : List Int) (a : Int) : Bool := decide (0 ≤ a) && (decide (a < n) && (Go.bits .and .u64 (rd ws (a / 64) / 2 ^ (a % 64).toNat) 1 == 1))
theorem has_calls {W : World} {g b : Nat} {n : Int} {ws : List Int} {c : Nat} {cs : Array Value} (h : Is W g b n ws c cs) (hn : n ≤ 65534) (hl : n ≤ 64 * (ws.length : Int)) (a : Int) (h0 : -9223372036854775808 ≤ a) (h1 : a ≤ 9223372036854775807) :
    Calls Try.prog 16 #[.pointer (some ⟨g, 0, none⟩), .int .i64 a] W fun e w' => e = .returned (.bool (hasW n ws a)) ∧ W = w' := by
  have HI := Aside0.mk h
  have e0 := h.c0
  have e1 := h.c1
  clear h
  by_cases c1 : 0 ≤ a
  · have d1 : decide (0 ≤ a) = true := decide_eq_true c1
    by_cases c2 : a < n
    · have d2 : decide (a < n) = true := decide_eq_true c2
      have hq : 0 ≤ a / 64 := by omega
      have hq2 : a / 64 < (ws.length : Int) := by omega
      obtain ⟨q, hqq⟩ := Int.eq_ofNat_of_zero_le hq
      have hqn : q < ws.length := by omega
      have hcw := HI.out.w q hqn
      have hr0 : 0 ≤ a % 64 := by omega
      have hr1 : a % 64 < 64 := by omega
      have E := Aside0.mk hqq
      have ew : wrap64 (Int.tdiv a 64) = (q : Int) := by rw [Int.tdiv_eq_ediv_of_nonneg c1, hqq]; exact Math.w64 (by omega) (by omega)
      have er : Int.tmod a 64 = a % 64 := Int.tmod_eq_emod_of_nonneg c1
      go_enter Try.func16, Try.ntmps16
      go_wp2_with fail
      go_ret
      refine ⟨?_, rfl⟩
      show Ending.returned (.bool (Go.bits .and .u64 (rd ws (q : Int) / 2 ^ (a % 64).toNat) 1 == 1)) = _
      unfold hasW
      rw [d1, d2, E.out]
      rfl
    · have d2 : decide (a < n) = false := decide_eq_false c2
      go_enter Try.func16, Try.ntmps16
      go_wp2_with fail
      go_ret
      exact ⟨by unfold hasW; rw [d1, d2]; rfl, rfl⟩
  · have d1 : decide (0 ≤ a) = false := decide_eq_false c1
    go_enter Try.func16, Try.ntmps16
    go_wp2_with fail
    go_ret
    exact ⟨by unfold hasW; rw [d1]; rfl, rfl⟩
theorem len_calls {W : World} {g b : Nat} {n : Int} {ws : List Int} {c : Nat} {cs : Array Value} (h : Is W g b n ws c cs) :
    Calls Try.prog 32 #[.pointer (some ⟨g, 0, none⟩)] W fun e w' => e = .returned (.int .i64 n) ∧ W = w' := by
  have e0 := h.c0
  have e1 := h.c1
  clear h
  go_enter Try.func32, Try.ntmps32
  go_wp2_with fail
  go_ret
  exact ⟨rfl, rfl⟩
/-- How many bits are set. -/
def cntW : List Int → Int
  | [] => 0
  | x :: l => (bits_OnesCount64.f x).getD 0 + cntW l
theorem cntW_snoc (l : List Int) (x : Int) : cntW (l ++ [x]) = cntW l + (bits_OnesCount64.f x).getD 0 := by
  induction l with
  | nil => simp [cntW]
  | cons y l ih => simp only [List.cons_append, cntW, ih]; omega
theorem ones_some (x : Int) : ∃ r, bits_OnesCount64.f x = some r := ⟨_, rfl⟩
theorem ones_calls (x r : Int) (w : World) (h : bits_OnesCount64.f x = some r) : Calls Try.prog 47 #[.int .u64 x] w fun e w' => e = .returned (.int .i64 r) ∧ w = w' := by
  unfold bits_OnesCount64.f at h
  obtain rfl := Option.some.inj h
  clear h
  go_enter Try.func47, Try.ntmps47
  go_wp2
  go_ret
  exact ⟨rfl, rfl⟩
theorem count_calls {W : World} {g b : Nat} {n : Int} {ws : List Int} {c : Nat} {cs : Array Value} (h : Is W g b n ws c cs) (hl : ws.length ≤ 2000) (hr : ∀ x ∈ ws, 0 ≤ (bits_OnesCount64.f x).getD 0 ∧ (bits_OnesCount64.f x).getD 0 ≤ 64) :
    Calls Try.prog 17 #[.pointer (some ⟨g, 0, none⟩)] W fun e w' => e = .returned (.int .i64 (cntW ws)) ∧ W = w' := by
  have HI := Aside0.mk h
  have HR := Aside0.mk hr
  have e0 := h.c0
  have e1 := h.c1
  clear h hr
  have bd : ∀ k, k ≤ ws.length → 0 ≤ cntW (ws.take k) ∧ cntW (ws.take k) ≤ 64 * (k : Int) := by
    intro k
    induction k with
    | zero => intro _; simp [cntW]
    | succ k ih =>
      intro hk
      obtain ⟨i1, i2⟩ := ih (by omega)
      obtain ⟨j1, j2⟩ := HR.out ws[k] (List.getElem_mem _)
      rw [List.take_succ_eq_append_getElem (by omega), cntW_snoc]
      omega
  have BD := Aside0.mk bd
  clear bd
  go_enter Try.func17, Try.ntmps17
  go_wp2_with fail
  go_loop [3, 11] (fun v3 v11 => ∃ k : Nat, k ≤ ws.length ∧ v11 = .int .i64 k ∧ v3 = .int .i64 (cntW (ws.take k))) (fun _ v11 => ws.length - (intOf v11).toNat)
  case atStart => exact ⟨0, Nat.zero_le _, rfl, rfl⟩
  case round =>
    obtain ⟨k, hk, rfl, rfl⟩ := hrel
    by_cases hlt : k < ws.length
    · have hcw := HI.out.w k hlt
      obtain ⟨r, hr⟩ := ones_some (rd ws k)
      have hrd : rd ws k = ws[k] := by unfold rd; simp [List.getD_eq_getElem?_getD, hlt]
      obtain ⟨j1, j2⟩ := HR.out ws[k] (List.getElem_mem _)
      rw [← hrd, hr] at j1 j2
      simp only [Option.getD_some] at j1 j2
      obtain ⟨b1, b2⟩ := BD.out k hk
      have hs : cntW (ws.take (k + 1)) = cntW (ws.take k) + r := by
        rw [List.take_succ_eq_append_getElem hlt, cntW_snoc, ← hrd, hr]; rfl
      have HS := Aside0.mk hs
      have HRR := Aside0.mk hr
      clear hs hr hrd
      go_wp2_with (go_at_call 47; refine (ones_calls _ _ _ HRR.out).mono ?_; rintro e w' ⟨rfl, rfl⟩)
      go_round
      case rel => exact ⟨k + 1, by omega, by go_num, by rw [HS.out]⟩
      case measure => simp [intOf]; omega
    · obtain rfl : k = ws.length := by omega
      go_wp2_with fail
      go_ret
      exact ⟨rfl, rfl⟩
/-- The first block from some on whose bit is as is told. -/
def nextW (n : Int) (ws : List Int) (used : Bool) : Nat → Nat → Int
  | 0, _ => -1
  | d + 1, k => if (hasW n ws (k : Int) == used) = true then (k : Int) else nextW n ws used d (k + 1)
theorem next_calls {W : World} {g b : Nat} {n : Nat} {ws : List Int} {c : Nat} {cs : Array Value} (h : Is W g b n ws c cs) (hn : n ≤ 65534) (hl : n ≤ 64 * ws.length) (a : Int) (used : Bool) (h0 : -9223372036854775808 ≤ a) (h1 : a ≤ 9223372036854775807) :
    Calls Try.prog 15 #[.pointer (some ⟨g, 0, none⟩), .int .i64 a, .bool used] W fun e w' => e = .returned (.int .i64 (nextW n ws used (n - a.toNat) a.toNat)) ∧ W = w' := by
  have HI := Aside0.mk h
  have e0 := h.c0
  have e1 := h.c1
  clear h
  have hm : (if 0 < a then a else 0) = (a.toNat : Int) := by split <;> omega
  have hb : (a.toNat : Int) ≤ 9223372036854775807 := by omega
  generalize a.toNat = A at hm hb
  have HL := Aside0.mk hl
  clear hl
  go_enter Try.func15, Try.ntmps15
  go_wp2_with fail
  go_loop [7] (fun v7 => ∃ k : Nat, v7 = .int .i64 k ∧ A ≤ k ∧ Aside0 (nextW n ws used (n - A) A = nextW n ws used (n - k) k)) (fun v7 => n - (intOf v7).toNat)
  case atStart => exact ⟨A, rfl, Nat.le_refl _, ⟨rfl⟩⟩
  case round =>
    obtain ⟨k, rfl, hk, hx⟩ := hrel
    by_cases hlt : k < n
    · have hs : n - k = (n - (k + 1)) + 1 := by omega
      have hxx := hx.out
      rw [hs] at hxx
      simp only [nextW] at hxx
      by_cases hu : (hasW n ws (k : Int) == used) = true
      · rw [if_pos hu] at hxx
        have HX := Aside0.mk hxx
        clear hxx
        go_wp2_with (go_at_call 16; refine (has_calls HI.out (by omega) (by have := HL.out; omega) _ (by omega) (by omega)).mono ?_; rintro e w' ⟨rfl, rfl⟩)
        go_ret
        exact ⟨by rw [HX.out]; rfl, rfl⟩
      · rw [if_neg hu] at hxx
        have hu' : (hasW n ws (k : Int) == used) = false := by simpa using hu
        have HX := Aside0.mk hxx
        clear hxx hu
        go_wp2_with (go_at_call 16; refine (has_calls HI.out (by omega) (by have := HL.out; omega) _ (by omega) (by omega)).mono ?_; rintro e w' ⟨rfl, rfl⟩)
        go_round
        case rel => exact ⟨k + 1, by go_num, by omega, HX⟩
        case measure => simp [intOf]; omega
    · have hs : n - k = 0 := by omega
      have hxx := hx.out
      rw [hs] at hxx
      have HX := Aside0.mk hxx
      clear hxx hs
      go_wp2_with fail
      go_ret
      exact ⟨by rw [HX.out]; rfl, rfl⟩
end Go.Proofs.Ytcknljndogbbhaa.Bm
