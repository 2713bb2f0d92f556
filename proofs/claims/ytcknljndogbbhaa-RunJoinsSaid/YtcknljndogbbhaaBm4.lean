/- The map in memory: out of words; blocks in a row. Conditions: as each lemma says. -/
import Derived.Test.YtcknljndogbbhaaBm3
namespace Go.Proofs.Ytcknljndogbbhaa.Bm
open Go.RowKit Go.Proofs.Ytcknljndogbbhaa Go.Proofs.Ytcknljndogbbhaa.PAll Go.Proofs.YtcknljndogbbhaaW.PrintWords Go.Proofs.YtcknljndogbbhaaW.PrintLast Go.Proofs.YtcknljndogbbhaaW.PrintMore
attribute [local go_sem] max2_int min2_int max_two min_two
set_option linter.unusedVariables false
/-- Are words a map's of so many blocks? -/
def ofOk (n : Int) (l : List Int) : Bool := decide (0 ≤ n) && (decide (n ≤ 65534) && (decide ((l.length : Int) = (n + 63) / 64) && (decide (n % 64 = 0) || decide (rd l ((l.length : Int) - 1) / 2 ^ (n % 64).toNat = 0))))
/-- The ends of Of. -/
def OfNo (W : World) (e : Ending) (w' : World) : Prop := e = .returned (.tuple #[.pointer none, .int .i64 2]) ∧ W = w'
def OfYes (W : World) (n : Int) (l : List Int) (e : Ending) (w' : World) : Prop := ∃ g b c cs, e = .returned (.tuple #[.pointer (some ⟨g, 0, none⟩), .int .i64 0]) ∧ Is w' g b n l c cs ∧ W.heap.size ≤ g ∧ W.heap.size ≤ b ∧ Below W.heap.size W w'
set_option maxHeartbeats 2000000 in
theorem of_no (W : World) (n : Int) (ad : Addr) (c : Nat) (l : List Int) (hC : Kd.C (Kd.int .u64) W (some ad) l.length l) (hl : l.length ≤ 100000) (hr : ∀ x ∈ l, 0 ≤ x ∧ x < 18446744073709551616) (hn : -9223372036854775808 ≤ n ∧ n ≤ 9223372036854775807) (h : ofOk n l = false) :
    Calls Try.prog 19 #[.int .i64 n, .slice (some ad) l.length c] W (OfNo W) := by
  by_cases c1 : n < 0
  · have d1 : decide (n < 0) = true := decide_eq_true c1
    clear h hC hr
    go_enter Try.func19, Try.ntmps19
    go_wp2_with fail
    go_ret2
    exact ⟨rfl, rfl⟩
  · have d1 : decide (n < 0) = false := decide_eq_false c1
    by_cases c2 : 65534 < n
    · have d2 : decide (65534 < n) = true := decide_eq_true c2
      clear h hC hr
      go_enter Try.func19, Try.ntmps19
      go_wp2_with fail
      go_ret2
      exact ⟨rfl, rfl⟩
    · have d2 : decide (65534 < n) = false := decide_eq_false c2
      obtain ⟨N, rfl⟩ := Int.eq_ofNat_of_zero_le (show 0 ≤ n by omega)
      obtain ⟨M, hM⟩ : ∃ M : Nat, M = (N + 63) / 64 := ⟨_, rfl⟩
      have HM := Aside0.mk hM
      have hM2 : ((N : Int) + 63) / 64 = (M : Int) := by omega
      by_cases c3 : l.length = M
      · have hx : N % 64 ≠ 0 ∧ rd l ((l.length : Int) - 1) / 2 ^ (N % 64) ≠ 0 := by
          unfold ofOk at h
          rw [hM2, decide_eq_true (by omega : (0 : Int) ≤ N), decide_eq_true (by omega : (N : Int) ≤ 65534), decide_eq_true (by omega : (l.length : Int) = M)] at h
          simp only [Bool.true_and, Bool.or_eq_false_iff, decide_eq_false_iff_not] at h
          rw [show ((N : Int) % 64).toNat = N % 64 from by omega] at h
          exact ⟨by omega, h.2⟩
        obtain ⟨h1, h2⟩ := hx
        have hpos : 0 < l.length := by omega
        obtain ⟨q, hq⟩ : ∃ q, l.length = q + 1 := ⟨l.length - 1, by omega⟩
        obtain ⟨ad', ea, hcx⟩ := C_at hC q (by omega)
        cases ea
        have d4 : ((N : Int) % 64 == 0) = false := by simp; omega
        have d4' : ((N : Int) % 64 != 0) = true := by simp; omega
        rw [show ((l.length : Int) - 1) = (q : Int) from by omega] at h2
        have hsub : wrap64 ((l.length : Int) - 1) = (q : Int) := by rw [Math.w64 (by omega) (by omega)]; omega
        have hsub2 : (l.length : Int) - 1 = (q : Int) := by omega
        have d5 : (rd l (q : Int) / 2 ^ (N % 64) != 0) = true := by simpa using h2
        have HC3 := Aside0.mk c3
        have HQ := Aside0.mk hq
        clear h hC hr h1 h2 hM hM2 c3 hq
        go_enter Try.func19, Try.ntmps19
        go_wp2_with (go_at_call 45; refine (nwords_calls _ N (by omega)).mono ?_; rintro e w' ⟨rfl, rfl⟩; rw [← HM.out, ← HC3.out])
        go_ret2
        exact ⟨rfl, rfl⟩
      · have d3 : ((l.length : Int) == (M : Int)) = false := by simp; omega
        have d3' : ((l.length : Int) != (M : Int)) = true := by simp; omega
        clear h hC hr hM hM2 c3
        go_enter Try.func19, Try.ntmps19
        go_wp2_with (go_at_call 45; refine (nwords_calls _ N (by omega)).mono ?_; rintro e w' ⟨rfl, rfl⟩; rw [← HM.out])
        go_ret2
        exact ⟨rfl, rfl⟩
set_option maxHeartbeats 2000000 in
theorem of_yes (W : World) (n : Int) (ad : Addr) (c : Nat) (l : List Int) (hC : Kd.C (Kd.int .u64) W (some ad) l.length l) (hl : l.length ≤ 100000) (hr : ∀ x ∈ l, 0 ≤ x ∧ x < 18446744073709551616) (hn : -9223372036854775808 ≤ n ∧ n ≤ 9223372036854775807) (h : ofOk n l = true) :
    Calls Try.prog 19 #[.int .i64 n, .slice (some ad) l.length c] W (OfYes W n l) := by
  unfold ofOk at h
  simp only [Bool.and_eq_true, decide_eq_true_eq, Bool.or_eq_true] at h
  obtain ⟨c1, c2, c3, c4⟩ := h
  obtain ⟨N, rfl⟩ := Int.eq_ofNat_of_zero_le c1
  obtain ⟨M, hM⟩ : ∃ M : Nat, M = (N + 63) / 64 := ⟨_, rfl⟩
  have c3' : l.length = M := by omega
  have HM := Aside0.mk hM
  have d1 : decide ((N : Int) < 0) = false := decide_eq_false (by omega)
  have d2 : decide (65534 < (N : Int)) = false := decide_eq_false (by omega)
  have hN : N ≤ 65534 := by omega
  have HC3 := Aside0.mk c3'
  have HCL := Aside0.mk (clone_calls ad c l hC hl)
  by_cases c5 : N % 64 = 0
  · have d4 : ((N : Int) % 64 == 0) = true := by simp; omega
    have d4' : ((N : Int) % 64 != 0) = false := by simp; omega
    clear hC hr hM c3 c3' c4 c5 c1 c2
    go_enter Try.func19, Try.ntmps19
    go_wp2_with (first | (go_at_call 45; refine (nwords_calls _ N hN).mono ?_; rintro e w' ⟨rfl, rfl⟩; rw [← HM.out, ← HC3.out]) | (go_at_call 48; refine HCL.out.mono ?_; rintro e w' ⟨b', c', cs', rfl, hb, hrow, hB⟩))
    go_ret2
    exact ⟨_, b', c', cs', rfl, (hrow.below (below_alloc (Below.refl _ _) _)).is _ (heap_alloc_new _ _), hB.size, hb, below_alloc hB _⟩
  · have hpos : 0 < l.length := by omega
    obtain ⟨q, hq⟩ : ∃ q, l.length = q + 1 := ⟨l.length - 1, by omega⟩
    obtain ⟨ad', ea, hcx⟩ := C_at hC q (by omega)
    cases ea
    have d4 : ((N : Int) % 64 == 0) = false := by simp; omega
    have d4' : ((N : Int) % 64 != 0) = true := by simp; omega
    have c4' : rd l ((l.length : Int) - 1) / 2 ^ ((N : Int) % 64).toNat = 0 := c4.resolve_left (by omega)
    rw [show ((N : Int) % 64).toNat = N % 64 from by omega, show ((l.length : Int) - 1) = (q : Int) from by omega] at c4'
    have hsub : wrap64 ((l.length : Int) - 1) = (q : Int) := by rw [Math.w64 (by omega) (by omega)]; omega
    have hsub2 : (l.length : Int) - 1 = (q : Int) := by omega
    have d5 : (rd l (q : Int) / 2 ^ (N % 64) != 0) = false := by simp [c4']
    have HQ := Aside0.mk hq
    clear hC hr hM c3 c3' c4 c4' c5 c1 c2 hq
    go_enter Try.func19, Try.ntmps19
    go_wp2_with (first | (go_at_call 45; refine (nwords_calls _ N hN).mono ?_; rintro e w' ⟨rfl, rfl⟩; rw [← HM.out, ← HC3.out]) | (go_at_call 48; refine HCL.out.mono ?_; rintro e w' ⟨b', c', cs', rfl, hb, hrow, hB⟩))
    go_ret2
    exact ⟨_, b', c', cs', rfl, (hrow.below (below_alloc (Below.refl _ _) _)).is _ (heap_alloc_new _ _), hB.size, hb, below_alloc hB _⟩
/-- Some blocks in a row are put. -/
def putsW (n : Int) : Nat → Int → List Int → List Int
  | 0, _, ws => ws
  | d + 1, a, ws => (turnW n false (putsW n d a ws) [a + d]).1
theorem putsW_length (n : Int) (d : Nat) (a : Int) (ws : List Int) : (putsW n d a ws).length = ws.length := by
  induction d with
  | zero => rfl
  | succ d ih => simp only [putsW]; rw [turnW_length, ih]
/-- May they be put? -/
def rangeOk (n : Nat) (ws : List Int) (a k : Int) : Bool :=
  decide (1 ≤ k) && (decide (0 ≤ a) && (decide (a < n) && (decide (k ≤ n - a) && !(decide (0 ≤ nextW n ws true (n - a.toNat) a.toNat) && decide (nextW n ws true (n - a.toNat) a.toNat < a + k)))))
theorem nextW_bd (n : Nat) (ws : List Int) (used : Bool) : ∀ d k : Nat, -1 ≤ nextW n ws used d k ∧ nextW n ws used d k ≤ k + d
  | 0, k => by simp only [nextW]; omega
  | d + 1, k => by
    have := nextW_bd n ws used d (k + 1)
    simp only [nextW]
    split <;> omega
set_option maxHeartbeats 2000000 in
theorem range_no {W : World} {g b : Nat} {n : Nat} {ws : List Int} {c : Nat} {cs : Array Value} (h : Is W g b n ws c cs) (hn : n ≤ 65534) (hl : n ≤ 64 * ws.length) (a k : Int) (ha : -9223372036854775808 ≤ a ∧ a ≤ 9223372036854775807) (hk : -9223372036854775808 ≤ k ∧ k ≤ 9223372036854775807) (hr : rangeOk n ws a k = false) :
    Calls Try.prog 28 #[.pointer (some ⟨g, 0, none⟩), .int .i64 a, .int .i64 k] W fun e w' => e = .returned (.bool false) ∧ W = w' := by
  have HI := Aside0.mk h
  have e0 := h.c0
  have e1 := h.c1
  have HL := Aside0.mk hl
  clear h hl
  by_cases c1 : k < 1
  · have d1 : decide (k < 1) = true := decide_eq_true c1
    clear hr
    go_enter Try.func28, Try.ntmps28
    go_wp2_with fail
    go_ret
    exact ⟨rfl, rfl⟩
  · have d1 : decide (k < 1) = false := decide_eq_false c1
    by_cases c2 : a < 0
    · have d2 : decide (a < 0) = true := decide_eq_true c2
      clear hr
      go_enter Try.func28, Try.ntmps28
      go_wp2_with fail
      go_ret
      exact ⟨rfl, rfl⟩
    · have d2 : decide (a < 0) = false := decide_eq_false c2
      by_cases c3 : (n : Int) ≤ a
      · have d3 : decide ((n : Int) ≤ a) = true := decide_eq_true c3
        clear hr
        go_enter Try.func28, Try.ntmps28
        go_wp2_with fail
        go_ret
        exact ⟨rfl, rfl⟩
      · have d3 : decide ((n : Int) ≤ a) = false := decide_eq_false c3
        by_cases c4 : (n : Int) - a < k
        · have d4 : decide ((n : Int) - a < k) = true := decide_eq_true c4
          clear hr
          go_enter Try.func28, Try.ntmps28
          go_wp2_with fail
          go_ret
          exact ⟨rfl, rfl⟩
        · have d4 : decide ((n : Int) - a < k) = false := decide_eq_false c4
          unfold rangeOk at hr
          rw [decide_eq_true (by omega : 1 ≤ k), decide_eq_true (by omega : 0 ≤ a), decide_eq_true (by omega : a < n), decide_eq_true (by omega : k ≤ n - a)] at hr
          simp only [Bool.true_and, Bool.not_eq_false', Bool.and_eq_true] at hr
          obtain ⟨r1, r2⟩ := hr
          have HN := Aside0.mk (next_calls HI.out hn HL.out a true ha.1 ha.2)
          generalize nextW n ws true (n - a.toNat) a.toNat = nx at r1 r2 HN
          go_enter Try.func28, Try.ntmps28
          go_wp2_with (go_at_call 15; refine HN.out.mono ?_; rintro e w' ⟨rfl, rfl⟩)
          go_ret
          exact ⟨rfl, rfl⟩
theorem one_C (W : World) (x : Int) : Kd.C (Kd.int .i64) (W.alloc (.cells #[.int .i64 x] 3)) (some ⟨W.heap.size, 0, none⟩) [x].length [x] :=
  Mem.C_cells_int (by simp) (fun j y hy => by
    obtain rfl : j = 0 := by have := (List.getElem?_eq_some_iff.1 hy).1; simp at this; exact this
    simp at hy; subst hy
    rw [add_plain, Mem.cell_new]; rfl)
theorem grown_alloc {W W' : World} {b : Option Nat} (h : W.grownBy W' b) (o : Obj) : W.grownBy (W'.alloc o) b :=
  ⟨h.os, h.tape, h.output, Nat.le_trans h.size (by simp), fun i hi hne => (Below.heap_alloc W' o i (Nat.lt_of_lt_of_le hi h.size)).trans (h.block i hi hne)⟩
theorem grown_trans {W W1 W2 : World} {b : Option Nat} (h : W.grownBy W1 b) (k : W1.grownBy W2 b) : W.grownBy W2 b :=
  ⟨k.os.trans h.os, k.tape.trans h.tape, k.output.trans h.output, Nat.le_trans h.size k.size, fun i hi hne => (k.block i (Nat.lt_of_lt_of_le hi h.size) hne).trans (h.block i hi hne)⟩
set_option maxHeartbeats 2000000 in
theorem range_yes {W : World} {g b : Nat} {n : Nat} {ws : List Int} {c : Nat} {cs : Array Value} (h : Is W g b n ws c cs) (hn : n ≤ 65534) (hl : n ≤ 64 * ws.length) (a k : Int) (ha : -9223372036854775808 ≤ a ∧ a ≤ 9223372036854775807) (hk : -9223372036854775808 ≤ k ∧ k ≤ 9223372036854775807) (hr : rangeOk n ws a k = true) :
    Calls Try.prog 28 #[.pointer (some ⟨g, 0, none⟩), .int .i64 a, .int .i64 k] W fun e w' => e = .returned (.bool true) ∧ (∃ cs', Is w' g b n (putsW n k.toNat a ws) c cs') ∧ W.grownBy w' (some b) := by
  have HI := Aside0.mk h
  have e0 := h.c0
  have e1 := h.c1
  have HL := Aside0.mk hl
  have HB := Aside0.mk (blk_lt h.bl)
  clear h hl
  unfold rangeOk at hr
  simp only [Bool.and_eq_true, decide_eq_true_eq, Bool.not_eq_true', Bool.and_eq_false_iff, decide_eq_false_iff_not] at hr
  obtain ⟨c1, c2, c3, c4, c5⟩ := hr
  obtain ⟨K, rfl⟩ := Int.eq_ofNat_of_zero_le (show 0 ≤ k by omega)
  obtain ⟨A, rfl⟩ := Int.eq_ofNat_of_zero_le c2
  have HN := Aside0.mk (next_calls HI.out hn HL.out (A : Int) true ha.1 ha.2)
  generalize nextW n ws true (n - (A : Int).toNat) (A : Int).toNat = nx at c5 HN
  rw [Int.toNat_natCast]
  have d1 : decide ((K : Int) < 1) = false := decide_eq_false (by omega)
  have d2 : decide ((A : Int) < 0) = false := decide_eq_false (by omega)
  have d3 : decide ((n : Int) ≤ A) = false := decide_eq_false (by omega)
  have d4 : decide ((n : Int) - A < K) = false := decide_eq_false (by omega)
  have hAK : A + K ≤ n := by omega
  have hAn : A < n := by omega
  have d3n : decide (n ≤ A) = false := decide_eq_false (by omega)
  clear c1 c2 c3 c4 ha hk
  by_cases c6 : 0 ≤ nx
  · have d5 : decide (0 ≤ nx) = true := decide_eq_true c6
    have d6 : decide (nx < (A : Int) + K) = false := decide_eq_false (by omega)
    have d7 : ¬ nx < (A : Int) + K := by omega
    clear c5
    go_enter Try.func28, Try.ntmps28
    go_wp2_with (go_at_call 15; refine HN.out.mono ?_; rintro e w' ⟨rfl, rfl⟩)
    go_loopw [8] (fun v8 wr => ∃ i : Nat, i ≤ K ∧ v8 = .int .i64 ((A + i : Nat) : Int) ∧ Aside0 (∃ cs', Is wr g b n (putsW n i A ws) c cs') ∧ Aside0 (W.grownBy wr (some b))) (fun v8 _ => A + K - (intOf v8).toNat)
    case atStart => exact ⟨0, Nat.zero_le _, rfl, ⟨_, HI.out⟩, ⟨World.grownBy.refl _ _⟩⟩
    case round =>
      obtain ⟨i, hi, rfl, HI2, HG⟩ := hrel
      obtain ⟨cs2, hI2⟩ := HI2.out
      have HI3 := Aside0.mk hI2
      clear HI2 hI2
      by_cases hlt : i < K
      · have hcl : decide (((A + i : Nat) : Int) < (A : Int) + K) = true := decide_eq_true (by omega)
        have hP : Aside0 (∀ W' : World, W' = wr.alloc (.cells #[.int .i64 ((A + i : Nat) : Int)] 3) → Calls Try.prog 14 #[.pointer (some ⟨g, 0, none⟩), .slice (some ⟨wr.heap.size, 0, none⟩) 1 1] W' fun e w' => e = .returned (.int .i64 (turnW n false (putsW n i A ws) [((A + i : Nat) : Int)]).2) ∧ (∃ cs', Is w' g b n (putsW n (i + 1) A ws) c cs') ∧ W'.grownBy w' (some b)) := ⟨fun W' e => by
          subst e
          refine (put_calls (HI3.out.below (below_alloc (Below.refl _ _) _)) hn (by have := HL.out; have := putsW_length n i A ws; omega) (some ⟨wr.heap.size, 0, none⟩) 1 [((A + i : Nat) : Int)] (one_C wr _) (fun ad e _ => by cases e; have := HB.out; have := HG.out.size; show wr.heap.size ≠ b; omega) (by simp) (fun x hx => by simp at hx; omega)).mono ?_
          rintro e w' ⟨he, hI, hG, _⟩
          refine ⟨he, ?_, hG⟩
          simp only [putsW]
          rw [show (A : Int) + i = ((A + i : Nat) : Int) from by omega]
          exact hI⟩
        go_wp2_with (go_at_call 14; refine (hP.out _ rfl).mono ?_; rintro e w' ⟨rfl, hI4, hG4⟩)
        go_roundw
        case rel => exact ⟨i + 1, by omega, by go_num, ⟨hI4⟩, ⟨grown_trans (grown_alloc HG.out _) hG4⟩⟩
        case measure => simp [intOf]; omega
      · obtain rfl : i = K := by omega
        have hcl : decide (((A + i : Nat) : Int) < (A : Int) + i) = false := decide_eq_false (by omega)
        go_wp2_with fail
        go_ret
        exact ⟨rfl, ⟨_, HI3.out⟩, HG.out⟩
  · have d5 : decide (0 ≤ nx) = false := decide_eq_false c6
    clear c5
    go_enter Try.func28, Try.ntmps28
    go_wp2_with (go_at_call 15; refine HN.out.mono ?_; rintro e w' ⟨rfl, rfl⟩)
    go_loopw [8] (fun v8 wr => ∃ i : Nat, i ≤ K ∧ v8 = .int .i64 ((A + i : Nat) : Int) ∧ Aside0 (∃ cs', Is wr g b n (putsW n i A ws) c cs') ∧ Aside0 (W.grownBy wr (some b))) (fun v8 _ => A + K - (intOf v8).toNat)
    case atStart => exact ⟨0, Nat.zero_le _, rfl, ⟨_, HI.out⟩, ⟨World.grownBy.refl _ _⟩⟩
    case round =>
      obtain ⟨i, hi, rfl, HI2, HG⟩ := hrel
      obtain ⟨cs2, hI2⟩ := HI2.out
      have HI3 := Aside0.mk hI2
      clear HI2 hI2
      by_cases hlt : i < K
      · have hcl : decide (((A + i : Nat) : Int) < (A : Int) + K) = true := decide_eq_true (by omega)
        have hP : Aside0 (∀ W' : World, W' = wr.alloc (.cells #[.int .i64 ((A + i : Nat) : Int)] 3) → Calls Try.prog 14 #[.pointer (some ⟨g, 0, none⟩), .slice (some ⟨wr.heap.size, 0, none⟩) 1 1] W' fun e w' => e = .returned (.int .i64 (turnW n false (putsW n i A ws) [((A + i : Nat) : Int)]).2) ∧ (∃ cs', Is w' g b n (putsW n (i + 1) A ws) c cs') ∧ W'.grownBy w' (some b)) := ⟨fun W' e => by
          subst e
          refine (put_calls (HI3.out.below (below_alloc (Below.refl _ _) _)) hn (by have := HL.out; have := putsW_length n i A ws; omega) (some ⟨wr.heap.size, 0, none⟩) 1 [((A + i : Nat) : Int)] (one_C wr _) (fun ad e _ => by cases e; have := HB.out; have := HG.out.size; show wr.heap.size ≠ b; omega) (by simp) (fun x hx => by simp at hx; omega)).mono ?_
          rintro e w' ⟨he, hI, hG, _⟩
          refine ⟨he, ?_, hG⟩
          simp only [putsW]
          rw [show (A : Int) + i = ((A + i : Nat) : Int) from by omega]
          exact hI⟩
        go_wp2_with (go_at_call 14; refine (hP.out _ rfl).mono ?_; rintro e w' ⟨rfl, hI4, hG4⟩)
        go_roundw
        case rel => exact ⟨i + 1, by omega, by go_num, ⟨hI4⟩, ⟨grown_trans (grown_alloc HG.out _) hG4⟩⟩
        case measure => simp [intOf]; omega
      · obtain rfl : i = K := by omega
        have hcl : decide (((A + i : Nat) : Int) < (A : Int) + i) = false := decide_eq_false (by omega)
        go_wp2_with fail
        go_ret
        exact ⟨rfl, ⟨_, HI3.out⟩, HG.out⟩
end Go.Proofs.Ytcknljndogbbhaa.Bm
