/- The map in memory: what its writing methods do. Conditions: as each lemma says. -/
import Derived.Test.YtcknljndogbbhaaBm1
import Derived.RegionTactic
import Derived.BigRegion
namespace Go.Proofs.Ytcknljndogbbhaa.Bm
open Go.RowKit Go.Proofs.Ytcknljndogbbhaa.PAll Go.Proofs.YtcknljndogbbhaaW.PrintWords Go.Proofs.YtcknljndogbbhaaW.PrintLast Go.Proofs.YtcknljndogbbhaaW.PrintMore
attribute [local go_sem] max2_int min2_int max_two min_two
set_option linter.unusedVariables false
/-- One bit turned. -/
def flipW (ws : List Int) (a : Int) : List Int := ws.set (a / 64).toNat (Go.bits .xor .u64 (rd ws (a / 64)) (IntKind.u64.wrap (2 ^ (a % 64).toNat)))
theorem flipW_length (ws : List Int) (a : Int) : (flipW ws a).length = ws.length := List.length_set
/-- One block of a list: turned if it is as was tells. -/
def turn1 (n : Int) (was : Bool) (s : List Int × Nat) (a : Int) : List Int × Nat := if (hasW n s.1 a == was) = true ∧ 0 ≤ a ∧ a < n then (flipW s.1 a, s.2 + 1) else s
def turnW (n : Int) (was : Bool) (ws : List Int) (l : List Int) : List Int × Nat := l.foldl (turn1 n was) (ws, 0)
theorem turn1_length (n : Int) (was : Bool) (s : List Int × Nat) (a : Int) : (turn1 n was s a).1.length = s.1.length := by
  unfold turn1; split
  · exact flipW_length _ _
  · rfl
theorem turn_fold_length (n : Int) (was : Bool) (l : List Int) : ∀ s : List Int × Nat, (l.foldl (turn1 n was) s).1.length = s.1.length := by
  induction l with
  | nil => intro s; rfl
  | cons a l ih => intro s; rw [List.foldl_cons, ih, turn1_length]
theorem turnW_length (n : Int) (was : Bool) (ws l : List Int) : (turnW n was ws l).1.length = ws.length := turn_fold_length n was l (ws, 0)
theorem turnW_snoc (n : Int) (was : Bool) (ws l : List Int) (a : Int) : turnW n was ws (l ++ [a]) = turn1 n was (turnW n was ws l) a := by unfold turnW; rw [List.foldl_append]; rfl
theorem turnW_le (n : Int) (was : Bool) (ws l : List Int) : (turnW n was ws l).2 ≤ l.length := by
  have : ∀ (l : List Int) (s : List Int × Nat), (l.foldl (turn1 n was) s).2 ≤ s.2 + l.length := by
    intro l
    induction l with
    | nil => intro s; simp
    | cons a l ih =>
      intro s
      have h1 := ih (turn1 n was s a)
      have h2 : (turn1 n was s a).2 ≤ s.2 + 1 := by unfold turn1; split <;> simp
      rw [List.foldl_cons, List.length_cons]; omega
  have := this l (ws, 0)
  unfold turnW; simpa using this
theorem keep_of {W W' : World} {b : Nat} (h : W.grownBy W' (some b)) : KeepBut W W' b none := ⟨h.size, fun i hi hne _ => h.block i hi (by simp [hne])⟩
/-- A bit turned in memory. -/
theorem Is.flip {W : World} {g b : Nat} {n : Int} {ws : List Int} {c : Nat} {cs : Array Value} (h : Is W g b n ws c cs) (a : Int) (q : Nat) (hq : a / 64 = (q : Int)) (hql : q < ws.length) :
    ∃ cs', Is (W.setCell ⟨b, q, none⟩ (.int .u64 (Go.bits .xor .u64 (rd ws (q : Int)) (IntKind.u64.wrap (2 ^ (a % 64).toNat))))) g b n (flipW ws a) c cs' := by
  refine ⟨_, ?_, blk_set h.bl q _, fun i hi => ?_, by rw [flipW_length]; exact h.le⟩
  · rw [flipW_length]; exact blk_far h.st h.ne _
  · rw [flipW_length] at hi
    have hlt : q < cs.size := (Array.getElem?_eq_some_iff.1 (h.at_ q hql)).1
    unfold flipW
    rw [hq, Int.toNat_natCast]
    by_cases e : i = q
    · subst e
      simp [rd, hlt, hi]
    · rw [Array.getElem?_setIfInBounds_ne (Ne.symm e), h.at_ i hi]
      simp [rd, List.getD_eq_getElem?_getD, List.getElem?_set_ne (Ne.symm e)]
theorem grown_set {W W' : World} {b : Nat} (h : W.grownBy W' (some b)) (q : Nat) (u : Value) : W.grownBy (W'.setCell ⟨b, q, none⟩ u) (some b) :=
  ⟨h.os, h.tape, h.output, by simpa [World.setCell] using h.size, fun i hi hne => (Below.heap_setCell W' ⟨b, q, none⟩ u i (fun e => hne (by rw [e]))).trans (h.block i hi hne)⟩
theorem grown_drewN {W W' : World} {b : Option Nat} (h : W.grownBy W' b) (m : Nat) : W.grownBy (W'.drewN m) b := ⟨h.os, h.tape, h.output, h.size, h.block⟩
theorem C_at {k : IntKind} {W : World} {A : Option Addr} {xs : List Int} (h : (Kd.int k).C W A xs.length xs) (i : Nat) (hi : i < xs.length) : ∃ ad, A = some ad ∧ W.cell? (ad.add i) = some (.int k (rd xs (i : Int))) := by
  obtain ⟨ad, e, hc⟩ := (readsInt_of.2 (Kd.reads_of_C (d := (0 : Int)) h)).at_ (i : Int) (by omega) (by omega)
  exact ⟨ad, e, by simpa using hc⟩
set_option maxHeartbeats 1000000 in
theorem turn_calls {W : World} {g b : Nat} {n : Nat} {ws : List Int} {c : Nat} {cs : Array Value} (h : Is W g b n ws c cs) (hn : n ≤ 65534) (hl : n ≤ 64 * ws.length) (was : Bool) (A : Option Addr) (cl : Nat) (l : List Int)
    (hC : Kd.C (Kd.int .i64) W A l.length l) (hb : ∀ ad, A = some ad → 0 < l.length → ad.block ≠ b) (hlc : l.length ≤ 1000000) (hr : ∀ x ∈ l, -9223372036854775808 ≤ x ∧ x ≤ 9223372036854775807) :
    Calls Try.prog 46 #[.pointer (some ⟨g, 0, none⟩), .bool was, .slice A l.length cl] W fun e w' => e = .returned (.int .i64 (turnW n was ws l).2) ∧ (∃ cs', Is w' g b n (turnW n was ws l).1 c cs') ∧ W.grownBy w' (some b) ∧ w'.heap.size = W.heap.size := by
  have HI := Aside0.mk h
  have HC := Aside0.mk hC
  have HB := Aside0.mk hb
  have HR := Aside0.mk hr
  have HL := Aside0.mk hl
  clear h hC hb hr hl
  go_enter Try.func46, Try.ntmps46
  go_wp2_with fail
  go_loopw [7, 12] (fun v7 v12 wr => ∃ i : Nat, i ≤ l.length ∧ v12 = .int .i64 i ∧ Aside0 (v7 = .int .i64 (turnW n was ws (l.take i)).2) ∧ Aside0 (∃ cs', Is wr g b n (turnW n was ws (l.take i)).1 c cs') ∧ Aside0 (W.grownBy wr (some b) ∧ wr.heap.size = W.heap.size)) (fun _ v12 _ => l.length - (intOf v12).toNat)
  case atStart => exact ⟨0, Nat.zero_le _, rfl, ⟨rfl⟩, ⟨_, HI.out⟩, ⟨World.grownBy.refl _ _, rfl⟩⟩
  case round =>
    obtain ⟨i, hi, rfl, h7, HI2, HG⟩ := hrel
    obtain ⟨cs2, hI2⟩ := HI2.out
    obtain rfl := h7.out
    clear h7 HI2
    by_cases hlt : i < l.length
    · have hs := turnW_snoc n was ws (l.take i) l[i]
      rw [← List.take_succ_eq_append_getElem hlt] at hs
      have hlen := turnW_length n was ws (l.take i)
      have hcnt := turnW_le n was ws (l.take i)
      rw [List.length_take] at hcnt
      generalize turnW n was ws (l.take i) = s at hI2 hs hlen hcnt ⊢
      obtain ⟨ws2, k2⟩ := s
      have hx := HR.out l[i] (List.getElem_mem _)
      obtain ⟨ad, eA, hcx⟩ := C_at (Kd.C_keep (0 : Int) HC.out (keep_of HG.out.1) HB.out) i hlt
      rw [show rd l (i : Int) = l[i] from by unfold rd; simp [List.getD_eq_getElem?_getD, hlt]] at hcx
      subst eA
      generalize l[i] = x at hx hs hcx
      have e0 := hI2.c0
      have e1 := hI2.c1
      have HS := Aside0.mk hs
      have HI3 := Aside0.mk hI2
      have hl3 : n ≤ 64 * ws2.length := by have := HL.out; simp only at hlen; omega
      have HL3 := Aside0.mk hl3
      clear hs hI2 hlen hl3
      simp only at e1
      by_cases hw : (hasW n ws2 x == was) = true ∧ 0 ≤ x ∧ x < n
      · obtain ⟨hw0, hx0, hx1⟩ := hw
        have d1 : decide (0 ≤ x) = true := decide_eq_true hx0
        have d2 : decide (x < (n : Int)) = true := decide_eq_true hx1
        have hq : 0 ≤ x / 64 := by omega
        obtain ⟨q, hqq⟩ := Int.eq_ofNat_of_zero_le hq
        have hql : q < ws2.length := by have := HL3.out; omega
        have ew : wrap64 (Int.tdiv x 64) = (q : Int) := by rw [Int.tdiv_eq_ediv_of_nonneg hx0, hqq]; exact Math.w64 (by omega) (by omega)
        have er : Int.tmod x 64 = x % 64 := Int.tmod_eq_emod_of_nonneg hx0
        have HQ := Aside0.mk hqq
        have hr0 : 0 ≤ x % 64 := by omega
        have hr1 : x % 64 < 64 := by omega
        have hcw := HI3.out.w q hql
        have hfz := blk_frozen HI3.out.bl q
        go_wp2_with (go_at_call 16; refine (has_calls HI3.out (by omega) (by have := HL3.out; omega) _ (by omega) (by omega)).mono ?_; rintro e w' ⟨rfl, rfl⟩)
        go_region
        go_wp2_with fail
        have hyes : turn1 n was (ws2, k2) x = (flipW ws2 x, k2 + 1) := by unfold turn1; rw [if_pos ⟨hw0, hx0, hx1⟩]
        go_roundw
        case rel =>
          obtain ⟨cs', hI'⟩ := HI3.out.flip x q HQ.out hql
          exact ⟨i + 1, by omega, by go_num, ⟨by rw [HS.out, hyes]; go_num⟩, ⟨cs', by rw [HS.out, hyes]; exact hI'.keep rfl rfl⟩, ⟨grown_drewN (grown_set HG.out.1 _ _) 1, by have := HG.out.2; simpa [World.setCell] using this⟩⟩
        case measure => simp [intOf]; omega
      · have hno : turn1 n was (ws2, k2) x = (ws2, k2) := by unfold turn1; rw [if_neg (by simpa using hw)]
        by_cases hx0 : 0 ≤ x
        · have d1 : decide (0 ≤ x) = true := decide_eq_true hx0
          by_cases hx1 : x < (n : Int)
          · have d2 : decide (x < (n : Int)) = true := decide_eq_true hx1
            have hw0 : (hasW n ws2 x == was) = false := by
              cases hh : (hasW n ws2 x == was) with
              | false => rfl
              | true => exact absurd ⟨hh, hx0, hx1⟩ hw
            have HN := Aside0.mk hno
            clear hw hno
            go_wp2_with (go_at_call 16; refine (has_calls HI3.out (by omega) (by have := HL3.out; omega) _ (by omega) (by omega)).mono ?_; rintro e w' ⟨rfl, rfl⟩)
            go_roundw
            case rel => exact ⟨i + 1, by omega, by go_num, ⟨by rw [HS.out, HN.out]⟩, ⟨_, by rw [HS.out, HN.out]; exact HI3.out⟩, HG⟩
            case measure => simp [intOf]; omega
          · have d2 : decide (x < (n : Int)) = false := decide_eq_false hx1
            have HN := Aside0.mk hno
            clear hw hno
            go_wp2_with fail
            go_roundw
            case rel => exact ⟨i + 1, by omega, by go_num, ⟨by rw [HS.out, HN.out]⟩, ⟨_, by rw [HS.out, HN.out]; exact HI3.out⟩, HG⟩
            case measure => simp [intOf]; omega
        · have d1 : decide (0 ≤ x) = false := decide_eq_false hx0
          have HN := Aside0.mk hno
          clear hw hno
          go_wp2_with fail
          go_roundw
          case rel => exact ⟨i + 1, by omega, by go_num, ⟨by rw [HS.out, HN.out]⟩, ⟨_, by rw [HS.out, HN.out]; exact HI3.out⟩, HG⟩
          case measure => simp [intOf]; omega
    · obtain rfl : i = l.length := by omega
      go_wp2_with fail
      go_ret
      rw [List.take_length] at hI2 ⊢
      exact ⟨rfl, ⟨_, hI2⟩, HG.out⟩
theorem put_calls {W : World} {g b : Nat} {n : Nat} {ws : List Int} {c : Nat} {cs : Array Value} (h : Is W g b n ws c cs) (hn : n ≤ 65534) (hl : n ≤ 64 * ws.length) (A : Option Addr) (cl : Nat) (l : List Int)
    (hC : Kd.C (Kd.int .i64) W A l.length l) (hb : ∀ ad, A = some ad → 0 < l.length → ad.block ≠ b) (hlc : l.length ≤ 1000000) (hr : ∀ x ∈ l, -9223372036854775808 ≤ x ∧ x ≤ 9223372036854775807) :
    Calls Try.prog 14 #[.pointer (some ⟨g, 0, none⟩), .slice A l.length cl] W fun e w' => e = .returned (.int .i64 (turnW n false ws l).2) ∧ (∃ cs', Is w' g b n (turnW n false ws l).1 c cs') ∧ W.grownBy w' (some b) ∧ w'.heap.size = W.heap.size := by
  have H := Aside0.mk (turn_calls h hn hl false A cl l hC hb hlc hr)
  clear h hC hb hr hl
  go_enter Try.func14, Try.ntmps14
  go_wp2_with (go_at_call 46; refine H.out.mono ?_; rintro e w' ⟨rfl, hI, hG, hS⟩)
  go_ret
  exact ⟨rfl, hI, hG, hS⟩
theorem drop_calls {W : World} {g b : Nat} {n : Nat} {ws : List Int} {c : Nat} {cs : Array Value} (h : Is W g b n ws c cs) (hn : n ≤ 65534) (hl : n ≤ 64 * ws.length) (A : Option Addr) (cl : Nat) (l : List Int)
    (hC : Kd.C (Kd.int .i64) W A l.length l) (hb : ∀ ad, A = some ad → 0 < l.length → ad.block ≠ b) (hlc : l.length ≤ 1000000) (hr : ∀ x ∈ l, -9223372036854775808 ≤ x ∧ x ≤ 9223372036854775807) :
    Calls Try.prog 27 #[.pointer (some ⟨g, 0, none⟩), .slice A l.length cl] W fun e w' => e = .returned (.int .i64 (turnW n true ws l).2) ∧ (∃ cs', Is w' g b n (turnW n true ws l).1 c cs') ∧ W.grownBy w' (some b) ∧ w'.heap.size = W.heap.size := by
  have H := Aside0.mk (turn_calls h hn hl true A cl l hC hb hlc hr)
  clear h hC hb hr hl
  go_enter Try.func27, Try.ntmps27
  go_wp2_with (go_at_call 46; refine H.out.mono ?_; rintro e w' ⟨rfl, hI, hG, hS⟩)
  go_ret
  exact ⟨rfl, hI, hG, hS⟩
/-- How many are free. -/
theorem free_calls {W : World} {g b : Nat} {n : Nat} {ws : List Int} {c : Nat} {cs : Array Value} (h : Is W g b n ws c cs) (hn : n ≤ 65534) (hl : ws.length ≤ 2000) (hr : ∀ x ∈ ws, 0 ≤ (bits_OnesCount64.f x).getD 0 ∧ (bits_OnesCount64.f x).getD 0 ≤ 64)
    (h0 : 0 ≤ cntW ws) (h1 : cntW ws ≤ 1000000) :
    Calls Try.prog 18 #[.pointer (some ⟨g, 0, none⟩)] W fun e w' => e = .returned (.int .i64 (n - cntW ws)) ∧ ∃ m, w' = W.drewN m := by
  have H : ∀ m, Calls Try.prog 17 #[.pointer (some ⟨g, 0, none⟩)] (W.drewN m) fun e w' => e = .returned (.int .i64 (cntW ws)) ∧ w' = W.drewN m :=
    fun m => (count_calls (h.keep (W' := W.drewN m) rfl rfl) hl hr).mono fun e w' ⟨he, hw⟩ => ⟨he, hw.symm⟩
  have H' := Aside0.mk H
  have e0 := h.c0
  have e1 := h.c1
  clear h hr H
  go_enter Try.func18, Try.ntmps18
  go_wp2_with fail
  go_quiet ((go_at_call 17; exact Calls.quiet_of_same (H'.out _)))
  go_wp2_with fail
  go_ret
  exact ⟨rfl, _, rfl⟩
/-- Some blocks in a row are put. -/
def rangeW (n : Int) : Nat → Int → List Int → List Int
  | 0, _, ws => ws
  | d + 1, a, ws => rangeW n d (a + 1) (turnW n false ws [a]).1
end Go.Proofs.Ytcknljndogbbhaa.Bm
