/- BitmapOf: the walk through the law function: for every number and all words it returns true. Conditions: as each lemma says. -/
import Derived.Test.YtcknljndogbbhaaBmO
import Derived.Test.YtcknljndogbbhaaBmS
import Derived.Laws.AppendOwnNone
namespace Go.Proofs.Ytcknljndogbbhaa.Bm
open Go.RowKit Go.Proofs.Ytcknljndogbbhaa Go.Proofs.Ytcknljndogbbhaa.PAll Go.Proofs.YtcknljndogbbhaaW.PrintWords Go.Proofs.YtcknljndogbbhaaW.PrintLast Go.Proofs.YtcknljndogbbhaaW.PrintMore
attribute [local go_sem] max2_int min2_int max_two min_two
set_option linter.unusedVariables false
theorem of_long (W : World) (n : Int) (A : Option Addr) (c : Nat) (l : List Int) (hl : 20 < l.length) :
    Calls Try.prog 4 #[.int .i64 n, .slice A l.length c] W fun e w' => e = .returned (.bool true) ∧ Below W.heap.size W w' := by
  have d : decide (20 < (l.length : Int)) = true := decide_eq_true (by omega)
  clear hl
  go_enter Try.func4, Try.ntmps4
  go_wp2_with fail
  refine (lives_calls _).mono ?_
  rintro e w1 ⟨rfl, hb⟩
  have HB1 := Aside0.mk hb
  clear hb
  go_wp2_with fail
  refine (lives_calls _).mono ?_
  rintro e w2 ⟨rfl, hb⟩
  have HB2 := Aside0.mk (below_then HB1.out HB1.out.size hb)
  clear hb
  go_wp2_with fail
  go_ret
  exact ⟨rfl, HB2.out⟩
theorem row_set {W : World} {b : Nat} {ws : List Int} {c : Nat} {cs : Array Value} (h : RowAt W b ws c cs) (i : Nat) (x : Int) : RowAt (W.setCell ⟨b, i, none⟩ (.int .u64 x)) b (ws.set i x) c (cs.setIfInBounds i (.int .u64 x)) := by
  refine ⟨blk_set h.bl i _, fun j hj => ?_, by rw [List.length_set]; exact h.le⟩
  rw [List.length_set] at hj
  have hlt : j < cs.size := (Array.getElem?_eq_some_iff.1 (h.at_ j hj)).1
  by_cases e : i = j
  · subst e; simp [rd, hlt, hj]
  · rw [Array.getElem?_setIfInBounds_ne e, h.at_ j hj]
    simp [rd, List.getD_eq_getElem?_getD, List.getElem?_set_ne e]
set_option maxHeartbeats 4000000 in
theorem of_some (W : World) (n : Int) (ad : Addr) (c : Nat) (l : List Int) (hl : l.length ≤ 20) (hlc : l.length ≤ c) (hn : -9223372036854775808 ≤ n ∧ n ≤ 9223372036854775807) (hC : Kd.C (Kd.int .u64) W (some ad) l.length l) (hr : Words64 l) :
    Calls Try.prog 4 #[.int .i64 n, .slice (some ad) l.length c] W fun e w' => e = .returned (.bool true) ∧ Below W.heap.size W w' := by
  have d : decide (20 < (l.length : Int)) = false := decide_eq_false (by omega)
  obtain ⟨i0, hi0, hz0, hz1, hz2⟩ := info_parts info39
  have HI := Aside0.mk (And.intro hi0 (And.intro hz0 (And.intro hz1 hz2)))
  have HC := Aside0.mk hC
  have HR := Aside0.mk hr
  have HL := Aside0.mk hl
  have HLC := Aside0.mk hlc
  clear hi0 hz0 hz1 hz2 hC hr hl hlc
  go_enter Try.func4, Try.ntmps4
  go_wp2_with fail
  refine (lives_calls _).mono ?_
  rintro e w1 ⟨rfl, hb⟩
  have HB1 := Aside0.mk hb
  have HC1 := Aside0.mk (Kd.C_below HC.out hb)
  clear hb HC
  have hown0 := own_lit w1 w1.heap.size 39 .u64 [] (Nat.le_refl _) (by simp)
  have hcell : ∀ j u, (nums .u64 l)[j]? = some u → (w1.alloc (.cells #[] 39)).cell? (ad.add j) = some u := by
    intro j u hu
    have hj : j < l.length := by have := (List.getElem?_eq_some_iff.1 hu).1; simpa [nums] using this
    obtain ⟨ad', ea, hc⟩ := C_at (Kd.C_below HC1.out (below_alloc (Below.refl _ _) (.cells #[] 39))) j hj
    cases ea
    rw [hc]
    simp [nums, hj] at hu
    rw [← hu]
    simp [rd, hj]
  have HO := Aside0.mk hown0
  have HCE := Aside0.mk hcell
  clear hown0 hcell
  go_wp2_with (at_builtin; refine wpList_append_own _ rfl _ _ 32 rfl w1.heap.size 39 i0 (.int .u64 0) 1 8 Try.underlying32 HI.out.1 HI.out.2.1 HI.out.2.2.1 HI.out.2.2.2 rfl (by decide) (.slice (some ⟨w1.heap.size, 0, none⟩) 0 0) 0 [] rfl HO.out ad l.length c (nums .u64 l) rfl (by rw [nums_length, Nat.mul_one]) HCE.out (by simp [nums, Value.oneCell']) (by unfold maxLen; have := HL.out; omega) (by have := HL.out; omega) (by simp) ?_; intro v' w2 hown hgrow hnil)
  rw [Nat.zero_add, List.nil_append] at hown
  obtain ⟨b0, c0, cs0, rfl, hb0, hrow⟩ := row_of_own hown (fun e => by simpa using hnil.1 e)
  have HB2 := Aside0.mk (pw_below_grown (below_alloc HB1.out (.cells #[] 39)) _ (Nat.le_trans HB1.out.size (by simp)) hgrow (fun k hk => by simp [Value.ownBlock] at hk; have := HB1.out.size; omega))
  have hCr : ∀ (k : Nat), k < w1.heap.size → w2.heap[k]? = w1.heap[k]? := fun k hk => (hgrow.block k (by simp; omega) (by simp [Value.ownBlock]; omega)).trans (Below.heap_alloc w1 _ k hk)
  have hG12 : Below w1.heap.size w1 w2 := pw_below_grown (below_alloc (Below.refl _ _) (.cells #[] 39)) _ (by simp) hgrow (fun k hk => by simp [Value.ownBlock] at hk; omega)
  have HC2 := Aside0.mk (Kd.C_below HC1.out hG12)
  have HR2 := Aside0.mk hrow
  have HBB := Aside0.mk (Nat.le_trans HB1.out.size hb0)
  have hlt0 : ∀ a, (some ad) = some a → 0 < l.length → a.block < w1.heap.size := fun a e hp => by
    obtain ⟨ad', e', hc⟩ := C_at HC1.out 0 hp
    cases e.symm.trans e'
    have := World.block_lt_of_cell? w1 (a.add 0) hc
    simpa [Addr.add] using this
  have HAB := Aside0.mk (show ∀ a, (some ad) = some a → 0 < l.length → a.block ≠ b0 from fun a e h => by have := hlt0 a e h; omega)
  clear hown hgrow hnil hb0 hrow hCr hG12 hlt0 HC1 HB1 HI HO HCE
  cases hok : ofOk n l with
  | false =>
    have HNO := Aside0.mk (of_no w2 n ⟨b0, 0, none⟩ c0 l (HR2.out.C (by have := HL.out; omega)) (by have := HL.out; omega) HR.out hn hok)
    have HFO := Aside0.mk (of_f_no HR.out HL.out hn hok 2000 (by have := HL.out; omega))
    clear hok
    go_wp2_with fail
    refine HNO.out.mono ?_
    rintro e w3 ⟨rfl, rfl⟩
    go_wp2_with fail
    refine (cantleref10_Of.calls 2000 n (some ad) c l _ _ _ HC2.out HLC.out HFO.out).mono ?_
    rintro e w4 ⟨v4, rfl, hr4, hB4⟩
    have HB4 := Aside0.mk (below_then HB2.out HB2.out.size hB4)
    have HR4 := Aside0.mk (HR2.out.below hB4)
    clear hr4 hB4 HB2 HR2 HNO HFO HC2
    go_wp2_with fail
    go_loopw [54] (fun v54 wr => ∃ (k : Nat) (ws : List Int) (cs : Array Value), k ≤ l.length ∧ v54 = .int .i64 k ∧ Aside0 (ws.length = l.length) ∧ Aside0 (RowAt wr b0 ws c0 cs) ∧ Aside0 (Below W.heap.size W wr)) (fun v54 _ => l.length - (intOf v54).toNat)
    case atStart => exact ⟨0, l, _, Nat.zero_le _, rfl, ⟨rfl⟩, HR4, HB4⟩
    case round =>
      obtain ⟨k, ws, cs, hk, rfl, hwl, HRr, HBr⟩ := hrel
      have HL' := HL.out
      by_cases hlt : k < l.length
      · have hcw : wr.cell? ⟨b0, k, none⟩ = some (.int .u64 (rd ws k)) := by rw [blk_cell HRr.out.bl, HRr.out.at_ k (by have := hwl.out; omega)]
        have hfz := blk_frozen HRr.out.bl k
        go_wp2_with fail
        go_roundw
        case rel => exact ⟨k + 1, _, _, by omega, by go_num, ⟨by rw [List.length_set]; exact hwl.out⟩, ⟨row_set HRr.out k _⟩, ⟨HBr.out.setCell HBB.out _⟩⟩
        case measure => simp [intOf]; omega
      · obtain rfl : k = l.length := by omega
        go_wp2_with fail
        go_ret
        exact ⟨rfl, HBr.out⟩
  | true =>
    have HYES := Aside0.mk (of_yes w2 n ⟨b0, 0, none⟩ c0 l (HR2.out.C (by have := HL.out; omega)) (by have := HL.out; omega) HR.out hn hok)
    have HFO := Aside0.mk (of_f_yes HR.out HL.out hok 2000 (by have := HL.out; omega))
    obtain ⟨N, rfl⟩ := Int.eq_ofNat_of_zero_le (show 0 ≤ n from by unfold ofOk at hok; simp at hok; exact hok.1)
    have hwb := wordsOf_bits HR.out hok
    have HN := Aside0.mk (ofOk_mk hok).1
    rw [Int.toNat_natCast] at HFO
    have hml := bitsOf_length N l
    generalize bitsOf N l = m at hwb hml HFO
    have HWB := Aside0.mk hwb
    have HML := Aside0.mk hml
    have HMM := Aside0.mk (show m.length ≤ 65534 by have := HN.out; omega)
    clear hok hwb hml
    go_wp2_with fail
    refine HYES.out.mono ?_
    rintro e w3 ⟨g, b, c3, cs3, rfl, hI, hg, hb, hB3⟩
    have hH : Holds w3 g b m := ⟨c3, cs3, by rw [HML.out, HWB.out]; exact hI⟩
    have HH3 := Aside0.mk hH
    have HB3 := Aside0.mk (below_then HB2.out HB2.out.size hB3)
    have HR3 := Aside0.mk (HR2.out.below hB3)
    have HC3 := Aside0.mk (Kd.C_below HC2.out hB3)
    have HNE := Aside0.mk (show g ≠ b0 ∧ b ≠ b0 from by have := blk_lt HR2.out.bl; omega)
    clear hI hg hb hB3 hH HB2 HR2 HC2 HYES
    have hnq : ∀ w : World, (binOp .neq 25 (.pointer (some ⟨g, 0, none⟩)) (.pointer none)).run Try.prog w = .ok (.bool true) w := fun w => by go_simp
    have heq : ∀ w : World, (binOp .eql 25 (.pointer (some ⟨g, 0, none⟩)) (.pointer none)).run Try.prog w = .ok (.bool false) w := fun w => by go_simp
    go_wp2_with fail
    refine (cantleref10_Of.calls 2000 (N : Int) (some ad) c l _ _ _ HC3.out HLC.out HFO.out).mono ?_
    rintro e w4 ⟨v4, rfl, hr4, hB4⟩
    obtain ⟨A4, c4, rfl, hl4, hC4⟩ := Kd.R_reads hr4
    have HB4 := Aside0.mk (below_then HB3.out HB3.out.size hB4)
    have HR4 := Aside0.mk (HR3.out.below hB4)
    have HH4 := Aside0.mk (HH3.out.below hB4)
    have HC4 := Aside0.mk (Kd.C_below HC3.out hB4)
    have HQ4 := Aside0.mk hC4
    have HL4 := Aside0.mk hl4
    have HA4 := Aside0.mk (show ∀ a, A4 = some a → 0 < m.length → a.block ≠ b0 from fun a e hp => by
      subst e
      have h2 := own_base (Kd.R_own hr4).choose_spec a.block rfl
      have := blk_lt HR3.out.bl
      omega)
    clear hr4 hB4 hC4 hl4 HB3 HR3 HH3 HC3 HFO
    go_wp2_with fail
    go_loopw [54] (fun v54 wr => ∃ (k : Nat) (ws : List Int) (cs : Array Value), k ≤ l.length ∧ v54 = .int .i64 k ∧ Aside0 (ws.length = l.length) ∧ Aside0 (RowAt wr b0 ws c0 cs) ∧ Aside0 (Below W.heap.size W wr) ∧ Aside0 (w4.grownBy wr (some b0))) (fun v54 _ => l.length - (intOf v54).toNat)
    case atStart => exact ⟨0, l, _, Nat.zero_le _, rfl, ⟨rfl⟩, HR4, HB4, ⟨World.grownBy.refl _ _⟩⟩
    case round =>
      obtain ⟨k, ws, cs, hk, rfl, hwl, HRr, HBr, HGr⟩ := hrel
      have HL' := HL.out
      by_cases hlt : k < l.length
      · have hcw : wr.cell? ⟨b0, k, none⟩ = some (.int .u64 (rd ws k)) := by rw [blk_cell HRr.out.bl, HRr.out.at_ k (by have := hwl.out; omega)]
        have hfz := blk_frozen HRr.out.bl k
        go_wp2_with fail
        go_roundw
        case rel => exact ⟨k + 1, _, _, by omega, by go_num, ⟨by rw [List.length_set]; exact hwl.out⟩, ⟨row_set HRr.out k _⟩, ⟨HBr.out.setCell HBB.out _⟩, ⟨grown_set HGr.out _ _⟩⟩
        case measure => simp [intOf]; omega
      · obtain rfl : k = l.length := by omega
        have HHr := Aside0.mk (HH4.out.far HGr.out HNE.out.1 HNE.out.2)
        have hQr : Kd.bool.C wr A4 m.length m := Kd.C_keep false HQ4.out (keep_of HGr.out) HA4.out
        have HQr := Aside0.mk hQr
        have HCr := Aside0.mk (Kd.C_keep (0 : Int) HC4.out (keep_of HGr.out) HAB.out)
        clear hQr HQ4 HC4 HH4 HGr HB4 HR4
        go_wp2_with fail
        refine (sameH HHr.out HMM.out A4 c4 HQr.out HL4.out).mono ?_
        rintro e w6 ⟨rfl, hB6⟩
        have HH6 := Aside0.mk (HHr.out.below hB6)
        have HC6 := Aside0.mk (Kd.C_below HCr.out hB6)
        have HB6 := Aside0.mk (below_then HBr.out HBr.out.size hB6)
        clear hB6 HHr HCr HBr HQr HRr
        go_wp2_with fail
        refine (wordsH HH6.out HMM.out).mono ?_
        rintro e w7 ⟨b7, c7, cs7, rfl, hb7, hR7, hB7⟩
        rw [HWB.out] at hR7 ⊢
        have HC7 := Aside0.mk (Kd.C_below HC6.out hB7)
        have HB7 := Aside0.mk (below_then HB6.out HB6.out.size hB7)
        have HR7 := Aside0.mk hR7
        clear hb7 hR7 hB7 HH6 HC6 HB6
        go_wp2_with fail
        refine (cantlelaw03_Same.calls 2000 _ _ _ _ _ _ true _ (HR7.out.C (by have := HL.out; omega)) HR7.out.le HC7.out HLC.out (same_f _ (by have := HL.out; omega) _ (by have := HL.out; omega))).mono ?_
        rintro e w8 ⟨rfl, n8, rfl⟩
        go_wp2_with fail
        go_ret
        exact ⟨rfl, pw_below_drewN HB7.out n8⟩
theorem c_nil {k : IntKind} (W : World) (A : Option Addr) : Kd.C (Kd.int k) W A 0 [] := by
  cases A with
  | none => exact Kd.C_nil _ _
  | some ad => exact Mem.C_cells_int (xs := []) (by simp) (fun j x h => by simp at h)
set_option maxHeartbeats 4000000 in
theorem of_none (W : World) (n : Int) (hn : -9223372036854775808 ≤ n ∧ n ≤ 9223372036854775807) :
    Calls Try.prog 4 #[.int .i64 n, .slice none 0 0] W fun e w' => e = .returned (.bool true) ∧ Below W.heap.size W w' := by
  obtain ⟨i0, hi0, hz0, hz1, hz2⟩ := info_parts info39
  have HI := Aside0.mk (And.intro hi0 (And.intro hz0 (And.intro hz1 hz2)))
  have HR := Aside0.mk (show Words64 [] from fun x hx => by simp at hx)
  clear hi0 hz0 hz1 hz2
  go_enter Try.func4, Try.ntmps4
  go_wp2_with fail
  refine (lives_calls _).mono ?_
  rintro e w1 ⟨rfl, hb⟩
  have HB1 := Aside0.mk hb
  clear hb
  have HO := Aside0.mk (own_lit w1 w1.heap.size 39 .u64 [] (Nat.le_refl _) (by simp))
  go_wp2_with (at_builtin; refine wpList_append_own_none _ rfl _ _ 32 rfl w1.heap.size 39 i0 1 Try.underlying32 HI.out.1 (.slice (some ⟨w1.heap.size, 0, none⟩) 0 0) 0 [] rfl HO.out rfl ?_)
  have HB2 := Aside0.mk (below_alloc HB1.out (.cells #[] 39))
  have HR2 := Aside0.mk (show RowAt (w1.alloc (.cells #[] 39)) w1.heap.size [] 0 #[] from ⟨heap_alloc_new _ _, fun i hi => by simp at hi, Nat.le_refl _⟩)
  generalize w1.heap.size = b0 at HR2 ⊢
  generalize w1.alloc (.cells #[] 39) = w2 at HR2 HB2 ⊢
  clear HO HB1 HI
  cases hok : ofOk n [] with
  | false =>
    have HNO := Aside0.mk (of_no w2 n ⟨b0, 0, none⟩ 0 [] (c_nil _ _) (by simp) HR.out hn hok)
    have HFO := Aside0.mk (of_f_no HR.out (by simp) hn hok 2000 (by simp))
    clear hok
    go_wp2_with fail
    refine HNO.out.mono ?_
    rintro e w3 ⟨rfl, rfl⟩
    go_wp2_with fail
    refine (cantleref10_Of.calls 2000 n none 0 [] _ _ _ (c_nil _ _) (Nat.le_refl _) HFO.out).mono ?_
    rintro e w4 ⟨v4, rfl, hr4, hB4⟩
    have HB4 := Aside0.mk (below_then HB2.out HB2.out.size hB4)
    clear hr4 hB4 HB2 HR2 HNO HFO
    go_wp2_with fail
    go_loopw [54] (fun v54 wr => v54 = .int .i64 0 ∧ Aside0 (Below W.heap.size W wr)) (fun _ _ => 0)
    case atStart => exact ⟨rfl, HB4⟩
    case round =>
      obtain ⟨rfl, HBr⟩ := hrel
      go_wp2_with fail
      go_ret
      exact ⟨rfl, HBr.out⟩
  | true =>
    have HYES := Aside0.mk (of_yes w2 n ⟨b0, 0, none⟩ 0 [] (c_nil _ _) (by simp) HR.out hn hok)
    have HFO := Aside0.mk (of_f_yes HR.out (by simp) hok 2000 (by simp))
    obtain ⟨N, rfl⟩ := Int.eq_ofNat_of_zero_le (show 0 ≤ n from by unfold ofOk at hok; simp at hok; exact hok.1)
    have hwb := wordsOf_bits HR.out hok
    have HN := Aside0.mk (ofOk_mk hok).1
    rw [Int.toNat_natCast] at HFO
    have hml := bitsOf_length N []
    generalize bitsOf N [] = m at hwb hml HFO
    have HWB := Aside0.mk hwb
    have HML := Aside0.mk hml
    have HMM := Aside0.mk (show m.length ≤ 65534 by have := HN.out; omega)
    clear hok hwb hml
    go_wp2_with fail
    refine HYES.out.mono ?_
    rintro e w3 ⟨g, b, c3, cs3, rfl, hI, hg, hb, hB3⟩
    have hH : Holds w3 g b m := ⟨c3, cs3, by rw [HML.out, HWB.out]; exact hI⟩
    have HH3 := Aside0.mk hH
    have HB3 := Aside0.mk (below_then HB2.out HB2.out.size hB3)
    clear hI hg hb hB3 hH HB2 HR2 HYES
    have hnq : ∀ w : World, (binOp .neq 25 (.pointer (some ⟨g, 0, none⟩)) (.pointer none)).run Try.prog w = .ok (.bool true) w := fun w => by go_simp
    have heq : ∀ w : World, (binOp .eql 25 (.pointer (some ⟨g, 0, none⟩)) (.pointer none)).run Try.prog w = .ok (.bool false) w := fun w => by go_simp
    go_wp2_with fail
    refine (cantleref10_Of.calls 2000 (N : Int) none 0 [] _ _ _ (c_nil _ _) (Nat.le_refl _) HFO.out).mono ?_
    rintro e w4 ⟨v4, rfl, hr4, hB4⟩
    obtain ⟨A4, c4, rfl, hl4, hC4⟩ := Kd.R_reads hr4
    have HB4 := Aside0.mk (below_then HB3.out HB3.out.size hB4)
    have HH4 := Aside0.mk (HH3.out.below hB4)
    have HQ4 := Aside0.mk hC4
    have HL4 := Aside0.mk hl4
    clear hr4 hB4 hC4 hl4 HB3 HH3 HFO
    go_wp2_with fail
    go_loop [54] (fun v54 => v54 = .int .i64 0) (fun _ => 0)
    case atStart => rfl
    case round =>
      obtain rfl := hrel
      go_wp2_with fail
      refine (sameH HH4.out HMM.out A4 c4 HQ4.out HL4.out).mono ?_
      rintro e w6 ⟨rfl, hB6⟩
      have HH6 := Aside0.mk (HH4.out.below hB6)
      have HB6 := Aside0.mk (below_then HB4.out HB4.out.size hB6)
      clear hB6 HB4 HQ4
      go_wp2_with fail
      refine (wordsH HH6.out HMM.out).mono ?_
      rintro e w7 ⟨b7, c7, cs7, rfl, hb7, hR7, hB7⟩
      rw [HWB.out] at hR7 ⊢
      have HB7 := Aside0.mk (below_then HB6.out HB6.out.size hB7)
      have HR7 := Aside0.mk hR7
      clear hb7 hR7 hB7 HH6 HB6
      go_wp2_with fail
      refine (cantlelaw03_Same.calls 2000 _ _ [] none 0 [] true _ (HR7.out.C (by simp)) HR7.out.le (c_nil _ _) (Nat.le_refl _) (same_f _ (by simp) _ (by simp))).mono ?_
      rintro e w8 ⟨rfl, n8, rfl⟩
      go_wp2_with fail
      go_ret
      exact ⟨rfl, pw_below_drewN HB7.out n8⟩
theorem of_all (W : World) (n : Int) (A : Option Addr) (c : Nat) (l : List Int) (hlc : l.length ≤ c) (hnil : A = none → c = 0) (hn : -9223372036854775808 ≤ n ∧ n ≤ 9223372036854775807) (hC : Kd.C (Kd.int .u64) W A l.length l) (hr : Words64 l) :
    Calls Try.prog 4 #[.int .i64 n, .slice A l.length c] W fun e w' => e = .returned (.bool true) ∧ Below W.heap.size W w' := by
  by_cases hl : l.length ≤ 20
  · cases A with
    | none =>
      have h0 : l = [] := by
        rcases l with _ | ⟨x, l⟩
        · rfl
        · obtain ⟨ad, e, _⟩ := C_at hC 0 (by simp); cases e
      subst h0
      rw [hnil rfl]
      exact of_none W n hn
    | some ad => exact of_some W n ad c l hl hlc hn hC hr
  · exact of_long W n A c l (by omega)
end Go.Proofs.Ytcknljndogbbhaa.Bm
