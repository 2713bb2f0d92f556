/- strings.ContainsAny at "/\x00", of any bytes, whether they are runes or not. Conditions: as each lemma says. -/
import Derived.Test.YtfkfpeiocdjniaaShelf
import Derived.Test.YtfkfpeiocdjniaaMath
import Derived.Laws.RangeString
import Derived.Deep.QuietTactic
import Derived.BigQuiet
import Derived.WalkMore
import Derived.Deep.LoopGhost
namespace Go.Proofs.Ytfkfpeiocdjniaa.Ca
open Go.RowKit Go.Lib Go.Proofs.Ytfkfpeiocdjniaa Go.Proofs.YtfkfpeiocdjniaaW.PrintWords Go.Proofs.YtfkfpeiocdjniaaW.PrintLast Go.Proofs.YtfkfpeiocdjniaaW.PrintMore
set_option linter.unusedVariables false
set_option linter.unusedSimpArgs false
abbrev sl : ByteArray := ⟨#[47, 0]⟩
theorem get_bang (s : ByteArray) (i : Nat) (h : i < s.size) : s.get! i = s[i]'h := by
  simp [ByteArray.get!, getElem!_pos, h]
  rfl
theorem decode_high (s : ByteArray) (i : Nat) (h : i < s.size) (h8 : 128 ≤ (s[i]'h).toNat) :
    ∃ r wd, Utf8.decode s i = (r, wd) ∧ 128 ≤ r ∧ Utf8.valid (r : Int) = true ∧ 1 ≤ wd ∧ i + wd ≤ s.size ∧ ∀ j, i ≤ j → j < i + wd → 128 ≤ (s.get! j).toNat := by
  have e0 : (s.get! (i + 0)).toNat = (s[i]'h).toNat := by rw [Nat.add_zero, get_bang s i h]
  have ei : 128 ≤ (s.get! i).toNat := by rw [get_bang s i h]; exact h8
  have bad : ∃ r wd, ((Utf8.runeError, 1) : Nat × Nat) = (r, wd) ∧ 128 ≤ r ∧ Utf8.valid (r : Int) = true ∧ 1 ≤ wd ∧ i + wd ≤ s.size ∧ ∀ j, i ≤ j → j < i + wd → 128 ≤ (s.get! j).toNat :=
    ⟨_, _, rfl, by decide, by decide, Nat.le_refl _, h, fun j h1 h2 => (show j = i by omega) ▸ ei⟩
  simp only [Utf8.decode, e0]
  generalize (s[i]'h).toNat = b0 at h8
  rw [if_neg (by omega)]
  split
  · rename_i hc
    simp only [Bool.and_eq_true, beq_iff_eq, decide_eq_true_eq] at hc
    obtain ⟨_, h1, h2⟩ := hc
    split
    · rename_i hr
      refine ⟨_, _, rfl, by omega, ?_, by omega, by omega, fun j j1 j2 => ?_⟩
      · unfold Utf8.valid
        simp only [Bool.or_eq_true, Bool.and_eq_true, decide_eq_true_eq]
        omega
      · have : j = i ∨ j = i + 1 := by omega
        rcases this with rfl | rfl
        · exact ei
        · omega
    · exact bad
  · split
    · rename_i hc
      simp only [Bool.and_eq_true, beq_iff_eq, decide_eq_true_eq] at hc
      obtain ⟨⟨_, h1, h2⟩, h3, h4⟩ := hc
      split
      · rename_i hr
        simp only [Bool.and_eq_true, decide_eq_true_eq] at hr
        refine ⟨_, _, rfl, by omega, hr.2, by omega, by omega, fun j j1 j2 => ?_⟩
        have : j = i ∨ j = i + 1 ∨ j = i + 2 := by omega
        rcases this with rfl | rfl | rfl
        · exact ei
        · omega
        · omega
      · exact bad
    · split
      · rename_i hc
        simp only [Bool.and_eq_true, beq_iff_eq, decide_eq_true_eq] at hc
        obtain ⟨⟨⟨_, h1, h2⟩, h3, h4⟩, h5, h6⟩ := hc
        split
        · rename_i hr
          simp only [Bool.and_eq_true, decide_eq_true_eq] at hr
          refine ⟨_, _, rfl, by omega, hr.2, by omega, by omega, fun j j1 j2 => ?_⟩
          have : j = i ∨ j = i + 1 ∨ j = i + 2 ∨ j = i + 3 := by omega
          rcases this with rfl | rfl | rfl | rfl
          · exact ei
          · omega
          · omega
          · omega
        · exact bad
      · exact bad
def putIter (W : World) (g : Nat) (s : ByteArray) (pos : Nat) : World := { W with heap := W.heap.setIfInBounds g (.stringIter s pos) }
theorem run_next_at {P : Program} (W : World) (g : Nat) (s : ByteArray) (pos r wd : Nat) (ty : TypeId) (hg : W.heap[g]? = some (.stringIter s pos)) (h : pos < s.size) (hd : Utf8.decode s pos = (r, wd)) :
    (Instr.next (.pointer (some ⟨g, 0, none⟩)) true ty).run P W = .ok (.tuple #[.bool true, .int .i64 pos, .int .i32 r]) (putIter W g s (pos + wd)) := by
  simp only [Instr.next, getObj, setObj, Sem.run_bind, Sem.run, hg, Result.andThen, h, if_true, hd]
  simp [goInt, Sem.run, hg, putIter]
theorem run_next_done {P : Program} (W : World) (g : Nat) (s : ByteArray) (pos : Nat) (ty : TypeId) (hg : W.heap[g]? = some (.stringIter s pos)) (h : ¬ pos < s.size) :
    (Instr.next (.pointer (some ⟨g, 0, none⟩)) true ty).run P W = .ok (.tuple #[.bool false]) W := by
  simp [Instr.next, getObj, Sem.run, hg, h]
theorem putIter_heap {W : World} {g : Nat} {s : ByteArray} {pos : Nat} (q : Nat) (hg : W.heap[g]? = some (.stringIter s pos)) : (putIter W g s q).heap[g]? = some (.stringIter s q) := by
  have := (Array.getElem?_eq_some_iff.1 hg).1
  simp [putIter, this]
theorem putIter_below {B : Nat} {w W : World} {g : Nat} (s : ByteArray) (q : Nat) (h : Below B w W) (hg : B ≤ g) : Below B w (putIter W g s q) :=
  ⟨h.os, h.tape, h.output, by have := h.size; simpa [putIter] using this, fun k hk => by
    rw [← h.block k hk]
    simp only [putIter]
    rw [Array.getElem?_setIfInBounds_ne (by omega)]⟩
theorem conv_rune (r : Int) (W : World) : (convert 21 9 (.int .i32 r)).run Try.prog W = .ok (.string (Utf8.encode r)) W := by
  simp [convert, run_underlying Try.underlying21, run_underlying Try.underlying9, Conv.intToString]
theorem cut_sl (W : World) : (Instr.slice 9 (.string sl) (some (.int .i64 2)) none none).run Try.prog W = .ok (.string ⟨#[]⟩) W := by
  kernel_rfl
theorem sl_size : sl.size = 2 := rfl
theorem dec0 : Utf8.decode sl 0 = (47, 1) := by decide
theorem dec1 : Utf8.decode sl 1 = (0, 1) := by decide
set_option maxHeartbeats 4000000 in
set_option maxRecDepth 1000000 in
theorem rune_error (w : World) : Calls Try.prog 36 #[.string sl, .int .i32 65533] w fun e w' => e = .returned (.int .i64 (-1)) ∧ Below w.heap.size w w' := by
  have hr := fun (W : World) => run_range_string (P := Try.prog) W 9 sl Try.underlying9
  go_enter Try.func36, Try.ntmps36
  go_wp2_with fail
  have H0 := Aside0.mk (show (w.iter sl 0).heap[w.heap.size]? = some (.stringIter sl 0) from World.iter_heap w sl 0)
  have HB0 := Aside0.mk (show Below w.heap.size w (w.iter sl 0) from below_alloc (Below.refl _ _) _)
  have HGE := Aside0.mk (Nat.le_refl w.heap.size)
  have hgen : ∃ g, g = w.heap.size := ⟨_, rfl⟩
  obtain ⟨g, hg⟩ := hgen
  rw [← hg] at H0 ⊢
  have HGE := Aside0.mk (show w.heap.size ≤ g from by omega)
  clear hg
  generalize w.iter sl 0 = w1 at H0 HB0 ⊢
  go_loopg [5] 2 (fun gk v5 wr => ∃ i : Nat, i + gk = 2 ∧ Aside0 (wr.heap[g]? = some (.stringIter sl i)) ∧ Aside0 (Below w.heap.size w wr))
  case atStart => exact ⟨0, by omega, H0, HB0⟩
  case round =>
    obtain ⟨i, hi, HI, HBi⟩ := hrel
    cases gk with
    | zero =>
      obtain rfl : i = 2 := by omega
      have hnx := fun ty => run_next_done (P := Try.prog) wr g sl 2 ty HI.out (by decide)
      go_wp2_with fail
      go_ret
      exact ⟨rfl, HBi.out⟩
    | succ g' =>
      have h01 : i = 0 ∨ i = 1 := by omega
      rcases h01 with rfl | rfl
      · have hnx := fun ty => run_next_at (P := Try.prog) wr g sl 0 47 1 ty HI.out (by decide) dec0
        go_wp2_with fail
        go_roundg g'
        case measure => omega
        case rel => exact ⟨1, by omega, ⟨putIter_heap _ HI.out⟩, ⟨putIter_below _ _ HBi.out HGE.out⟩⟩
      · have hnx := fun ty => run_next_at (P := Try.prog) wr g sl 1 0 1 ty HI.out (by decide) dec1
        go_wp2_with fail
        go_roundg g'
        case measure => omega
        case rel => exact ⟨2, by omega, ⟨putIter_heap _ HI.out⟩, ⟨putIter_below _ _ HBi.out HGE.out⟩⟩
theorem enc_size (r : Nat) (h : 128 ≤ r) (hv : Utf8.valid (r : Int) = true) : (∃ x y : UInt8, Utf8.encode (r : Int) = ⟨#[x, y]⟩ ∧ 128 ≤ y.toNat) ∨ (3 ≤ (Utf8.encode (r : Int)).size ∧ (Utf8.encode (r : Int)).size ≤ 4) := by
  unfold Utf8.encode
  simp only [hv, if_true, Int.toNat_natCast]
  rw [if_neg (by omega)]
  split
  · refine Or.inl ⟨_, _, rfl, ?_⟩
    rw [UInt8.toNat_ofNat']; omega
  · split
    · exact Or.inr ⟨Nat.le_refl 3, by show 3 ≤ 4; decide⟩
    · exact Or.inr ⟨by show 3 ≤ 4; decide, Nat.le_refl 4⟩
set_option maxHeartbeats 4000000 in
set_option maxRecDepth 1000000 in
theorem rune_high (r : Nat) (h : 128 ≤ r) (hv : Utf8.valid (r : Int) = true) (hne : r ≠ 65533) (w : World) : Calls Try.prog 36 #[.string sl, .int .i32 r] w fun e w' => e = .returned (.int .i64 (-1)) ∧ Below w.heap.size w w' := by
  have hs := enc_size r h hv
  have d1 : decide ((r : Int) < 128) = false := decide_eq_false (by omega)
  have d2 : ((r : Int) == 65533) = false := by rw [beq_eq_false_iff_ne]; omega
  have hval : Lib.validRune (r : Int) = true := by
    unfold Utf8.valid at hv
    unfold Lib.validRune
    simp only [Bool.or_eq_true, Bool.and_eq_true, decide_eq_true_eq] at hv ⊢
    omega
  have hcv : ∀ W : World, (convert 21 9 (.int .i32 (r : Int))).run Try.prog W = .ok (.string (Utf8.encode (r : Int))) W := conv_rune (r : Int)
  generalize Utf8.encode (r : Int) = E at hs hcv
  have HS := Aside0.mk hs
  clear h hv hne hs
  go_enter Try.func36, Try.ntmps36
  go_wp2_with (go_at_call 41; refine (Try.utf8_ValidRune (r : Int) _).mono ?_; rintro e w1 ⟨rfl, rfl⟩; rw [hval])
  rcases HS.out with ⟨x, y, rfl, hy⟩ | ⟨h3, h4⟩
  · have hne : (((sl[1]'(by decide)).toNat : Int) != (((⟨#[x, y]⟩ : ByteArray)[1]'(by show 1 < 2; decide)).toNat : Int)) = true := by
      rw [bne_iff_ne]
      show ((0 : Nat) : Int) ≠ (y.toNat : Int)
      omega
    go_step3
    go_wp2_with fail
    go_loopw [9] (fun v9 wr => v9 = .int .i64 1 ∧ wr = w1) (fun v9 _ => 1)
    case atStart => exact ⟨rfl, rfl⟩
    case round =>
      obtain ⟨rfl, rfl⟩ := hrel
      go_wp2_with fail
      go_step3
      go_wp2_with fail
      go_quiet (fail)
      go_wp2_with fail
      have HBq := Aside0.mk (show Below wr.heap.size wr (wr.drewN nq) from pw_below_drewN (Below.refl _ _) nq)
      generalize wr.drewN nq = wq at HBq ⊢
      have hsl : ∀ W : World, (Instr.slice 9 (.string sl) (some (.int .i64 2)) none none).run Try.prog W = .ok (.string ⟨#[]⟩) W := cut_sl
      have hG := Aside0.mk (fun (W : World) (c : Int) => (Try.strings_IndexByte ⟨#[]⟩ c W))
      go_quiet ((go_at_call 40; exact Calls.quiet_of_same (hG.out _ _)))
      have hib : ∀ c : UInt8, indexByte (⟨#[]⟩ : ByteArray).data.toList c = -1 := fun c => rfl
      rw [hib]
      have HBz := Aside0.mk (show Below wr.heap.size wr (wq.drewN nq) from pw_below_drewN HBq.out nq)
      go_wp2_with fail
      rw [Exit.noGoto_ret]
      go_ret
      exact ⟨rfl, HBz.out⟩
  · obtain ⟨n, hn⟩ : ∃ n, E.size = n := ⟨_, rfl⟩
    rw [hn] at h3 h4
    go_step3
    go_wp2_with fail
    go_loopw [9] (fun v9 wr => v9 = .int .i64 ((n : Int) - 1) ∧ wr = w1) (fun v9 _ => 1)
    case atStart => exact ⟨by rw [← hn], rfl⟩
    case round =>
      obtain ⟨rfl, rfl⟩ := hrel
      have d3 : decide ((n : Int) - 1 < 2) = false := decide_eq_false (by omega)
      go_wp2_with fail
      rw [Exit.noGoto_ret]
      go_ret
      exact ⟨rfl, Below.refl _ _⟩
theorem rune_no (r : Nat) (h : 128 ≤ r) (hv : Utf8.valid (r : Int) = true) (w : World) : Calls Try.prog 36 #[.string sl, .int .i32 r] w fun e w' => e = .returned (.int .i64 (-1)) ∧ Below w.heap.size w w' := by
  by_cases e : r = 65533
  · subst e; exact rune_error w
  · exact rune_high r h hv e w
theorem rune_low (x : UInt8) (h : x.toNat < 128) (w : World) : Calls Try.prog 36 #[.string sl, .int .i32 (x.toNat : Int)] w fun e w' => e = .returned (.int .i64 (indexByte sl.data.toList x)) ∧ w' = w := by
  have := Try.strings_IndexRune_ascii sl (x.toNat : Int) w (by omega) (by omega)
  rw [show ((x.toNat : Int)).toNat.toUInt8 = x from by simp] at this
  exact this
theorem sl_list : sl.data.toList = [47, 0] := rfl
theorem noAny_many {l cs : List UInt8} {i : Nat} (h : NoAny l cs i) (d : Nat) (hd : ∀ j b, i ≤ j → j < i + d → l[j]? = some b → cs.contains b = false) : NoAny l cs (i + d) := fun j b hj hb => by
  by_cases e : j < i
  · exact h j b e hb
  · exact hd j b (by omega) (by omega) hb
set_option maxHeartbeats 8000000 in
set_option maxRecDepth 1000000 in
theorem any_short (s : ByteArray) (h8 : s.size ≤ 8) (w : World) : Calls Try.prog 34 #[.string s, .string sl] w fun e w' => e = .returned (.int .i64 (indexAny s.data.toList sl.data.toList)) ∧ Below w.heap.size w w' := by
  have h8z : decide ((8 : Int) < (s.size : Int)) = false := decide_eq_false (by omega)
  have hr := fun (W : World) => run_range_string (P := Try.prog) W 9 s Try.underlying9
  go_enter Try.func34, Try.ntmps34
  go_wp2_with (go_at_call 37; refine (Try.strings_shouldUseASCIISet _ _).mono ?_; rintro e w' ⟨rfl, hw⟩; rw [hw, h8z])
  have H0 := Aside0.mk (show (w.iter s 0).heap[w.heap.size]? = some (.stringIter s 0) from World.iter_heap w s 0)
  have HB0 := Aside0.mk (show Below w.heap.size w (w.iter s 0) from below_alloc (Below.refl _ _) _)
  obtain ⟨g, hg⟩ : ∃ g, g = w.heap.size := ⟨_, rfl⟩
  rw [← hg] at H0 ⊢
  have HGE := Aside0.mk (show w.heap.size ≤ g from by omega)
  clear hg
  generalize w.iter s 0 = w1 at H0 HB0 ⊢
  go_loopg [9, 10] s.size (fun gk v9 v10 wr => ∃ i : Nat, i + gk = s.size ∧ Aside0 (wr.heap[g]? = some (.stringIter s i)) ∧ Aside0 (NoAny s.data.toList sl.data.toList i) ∧ Aside0 (Below w.heap.size w wr))
  case atStart => exact ⟨0, by omega, H0, ⟨NoAny.zero _ _⟩, HB0⟩
  case round =>
    obtain ⟨i, hi, HI, HN, HBi⟩ := hrel
    by_cases hlt : i < s.size
    · obtain ⟨x, hx⟩ : ∃ x : UInt8, s[i]'hlt = x := ⟨_, rfl⟩
      have hxl : s.data.toList[i]? = some x := by rw [← hx]; exact Lib.data_getElem? s i hlt
      by_cases hlow : x.toNat < 128
      · have hdec := decode_ascii s i hlt (by rw [hx]; exact hlow)
        rw [hx] at hdec
        have hnx := fun ty => run_next_at (P := Try.prog) wr g s i x.toNat 1 ty HI.out hlt hdec
        have HI2 := Aside0.mk (putIter_heap (i + 1) HI.out)
        have HB2 := Aside0.mk (putIter_below s (i + 1) HBi.out HGE.out)
        have hcon := Lib.contains_iff_indexByte sl.data.toList x
        have HXL := Aside0.mk hxl
        have HLT := Aside0.mk (And.intro hlt hi)
        have HRL := Aside0.mk (rune_low x hlow)
        clear hx hdec hxl hlt hi hlow
        cases hin : sl.data.toList.contains x
        · rw [hin] at hcon
          have hneg : decide ((0 : Int) ≤ indexByte sl.data.toList x) = false := hcon.symm
          have hneg2 : ((0 : Int) ≤ indexByte sl.data.toList x) = False := eq_false (of_decide_eq_false hneg)
          clear hcon
          go_wp2_with (go_at_call 36; refine (HRL.out _).mono ?_; rintro e w' ⟨rfl, hw⟩; rw [hw])
          go_roundg (gk - 1)
          case measure => have := HLT.out; omega
          case rel => exact ⟨i + 1, by have := HLT.out; omega, HI2, ⟨HN.out.succ HXL.out hin⟩, HB2⟩
        · rw [hin] at hcon
          have hpos : decide ((0 : Int) ≤ indexByte sl.data.toList x) = true := hcon.symm
          have hpos2 : ((0 : Int) ≤ indexByte sl.data.toList x) = True := eq_true (of_decide_eq_true hpos)
          clear hcon
          go_wp2_with (go_at_call 36; refine (HRL.out _).mono ?_; rintro e w' ⟨rfl, hw⟩; rw [hw])
          go_ret
          exact ⟨by rw [indexAny_hit HN.out HXL.out hin]; rfl, HB2.out⟩
      · obtain ⟨r, wd, hdec, hr1, hr2, hw1, hw2, hw3⟩ := decode_high s i hlt (by rw [hx]; omega)
        have hnx := fun ty => run_next_at (P := Try.prog) wr g s i r wd ty HI.out hlt hdec
        have HI2 := Aside0.mk (putIter_heap (i + wd) HI.out)
        have HB2 := Aside0.mk (putIter_below s (i + wd) HBi.out HGE.out)
        have HN2 := Aside0.mk (noAny_many HN.out wd (fun j b j1 j2 hb => by
          have hj : j < s.size := by omega
          have h128 := hw3 j j1 j2
          rw [get_bang s j hj] at h128
          have hb2 := Lib.data_getElem? s j hj
          rw [hb] at hb2
          injection hb2 with hb2
          rw [← hb2] at h128
          have h47 : b ≠ 47 := by rintro rfl; revert h128; decide
          have h00 : b ≠ 0 := by rintro rfl; revert h128; decide
          simp [h47, h00]))
        have HLT := Aside0.mk (And.intro hlt (And.intro hi (And.intro hw1 hw2)))
        have HRN := Aside0.mk (rune_no r hr1 hr2)
        clear hx hxl hlt hi hdec hr1 hr2 hw1 hw2 hw3 hlow
        generalize putIter wr g s (i + wd) = wp at hnx HI2 HB2 ⊢
        go_wp2_with fail
        refine (HRN.out _).mono ?_
        rintro e w' ⟨rfl, hw⟩
        have HI3 := Aside0.mk ((hw.block g ((Array.getElem?_eq_some_iff.1 HI2.out).1)).trans HI2.out)
        have HB3 := Aside0.mk (below_then HB2.out HB2.out.size hw)
        clear hw hnx
        go_wp2_with fail
        go_roundg (gk - wd)
        case measure => have := HLT.out; omega
        case rel => exact ⟨i + wd, by have := HLT.out; omega, HI3, HN2, HB3⟩
    · have hnx := fun ty => run_next_done (P := Try.prog) wr g s i ty HI.out hlt
      have HE := Aside0.mk (show i = s.size from by omega)
      clear hlt hi
      go_wp2_with fail
      go_ret
      exact ⟨by rw [indexAny_none (by rw [← Lib.size_eq, ← HE.out]; exact HN.out)]; rfl, HBi.out⟩
theorem sl_ascii : ∀ (j : Nat) b, sl.data.toList[j]? = some b → b.toNat < 128 := by
  intro j b h
  rcases j with _ | _ | j
  · simp at h; subst h; decide
  · simp at h; subst h; decide
  · simp at h
theorem any_all (s : ByteArray) (hs : s.size < 4294967281) (w : World) : Calls Try.prog 34 #[.string s, .string sl] w fun e w' => e = .returned (.int .i64 (indexAny s.data.toList sl.data.toList)) ∧ Below w.heap.size w w' := by
  by_cases h8 : s.size ≤ 8
  · exact any_short s h8 w
  · refine (Try.strings_IndexAny_long (zero_of_info (P := Try.prog) (t := 71) (n := 256) (by kernel_rfl)).1 s sl w (Nat.le_refl 2) (by omega) hs (by decide) sl_ascii).mono ?_
    rintro e w' ⟨h1, rfl⟩
    exact ⟨h1, below_alloc (below_alloc (Below.refl _ _) _) _⟩
/-- Is a slash or a nought among the bytes? -/
def bad (s : ByteArray) : Bool := s.data.toList.any fun b => b == 47 || b == 0
theorem contains_bad : ∀ l : List UInt8, decide (0 ≤ indexAny l sl.data.toList) = l.any fun b => b == 47 || b == 0
  | [] => rfl
  | b :: l => by
    have ih := contains_bad l
    have hg := indexAny_ge sl.data.toList l
    have hc : sl.data.toList.contains b = (b == 47 || b == 0) := by
      rw [sl_list]
      show List.elem b [47, 0] = _
      unfold List.elem
      cases (b == 47)
      · unfold List.elem; cases (b == 0) <;> rfl
      · rfl
    rw [List.any_cons, ← ih]
    have hu : indexAny (b :: l) sl.data.toList = if sl.data.toList.contains b then 0 else if indexAny l sl.data.toList == -1 then -1 else indexAny l sl.data.toList + 1 := rfl
    rw [hu, hc]
    clear hu ih hc
    generalize indexAny l sl.data.toList = q at hg ⊢
    cases (b == 47 || b == 0)
    · by_cases h : q = -1
      · subst h; rfl
      · have h2 : 0 ≤ q := by omega
        have h3 : (q == -1) = false := by rw [beq_eq_false_iff_ne]; exact h
        rw [h3, decide_eq_true h2]
        exact (decide_eq_true (show 0 ≤ q + 1 by omega)).symm ▸ rfl
    · rfl
set_option maxRecDepth 100000 in
theorem contains_calls (s : ByteArray) (hs : s.size < 4294967281) (w : World) : Calls Try.prog 29 #[.string s, .string sl] w fun e w' => e = .returned (.bool (bad s)) ∧ Below w.heap.size w w' := by
  have hA := Aside0.mk (any_all s hs w)
  have hB := contains_bad s.data.toList
  have HBB := Aside0.mk hB
  clear hB hs
  go_enter Try.func29, Try.ntmps29
  go_wp2_with fail
  refine hA.out.mono ?_
  rintro e w1 ⟨rfl, hb⟩
  have H1 := Aside0.mk hb
  clear hb
  go_wp2_with fail
  go_ret
  exact ⟨by unfold bad; rw [← HBB.out]; rfl, H1.out⟩
end Go.Proofs.Ytfkfpeiocdjniaa.Ca
