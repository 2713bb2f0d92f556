/- BitmapCopies: the walk through the law function: for every number, every list of blocks and every block it returns true. Conditions: as each lemma says. -/
import Derived.Test.YtcknljndogbbhaaBmS
namespace Go.Proofs.Ytcknljndogbbhaa.Bm
open Go.RowKit Go.Proofs.Ytcknljndogbbhaa Go.Proofs.Ytcknljndogbbhaa.PAll Go.Proofs.YtcknljndogbbhaaW.PrintWords Go.Proofs.YtcknljndogbbhaaW.PrintLast Go.Proofs.YtcknljndogbbhaaW.PrintMore
attribute [local go_sem] max2_int min2_int max_two min_two
set_option linter.unusedVariables false
/-- A row that came in lies below what is new. -/
theorem arg_lt {k : IntKind} {W : World} {A : Option Addr} {l : List Int} (h : Kd.C (Kd.int k) W A l.length l) : ∀ ad, A = some ad → 0 < l.length → ad.block < W.heap.size := by
  intro ad e hl
  obtain ⟨ad', e', hc⟩ := C_at h 0 hl
  cases e.symm.trans e'
  have := World.block_lt_of_cell? W (ad.add 0) hc
  simpa [Addr.add] using this
theorem turn_yes {was : Bool} {m : List Bool} {b : Int} (h : (hasAt m b == was) = true) (h0 : 0 ≤ b) (h1 : b < m.length) : turnB was m [b] = (m.set b.toNat (!was), 1) := by
  show turnB1 was (m, 0) b = _
  unfold turnB1
  rw [if_pos ⟨h, h0, h1⟩]
theorem turn_no {was : Bool} {m : List Bool} {b : Int} (h : ¬ ((hasAt m b == was) = true ∧ 0 ≤ b ∧ b < m.length)) : turnB was m [b] = (m, 0) := by
  show turnB1 was (m, 0) b = _
  unfold turnB1
  rw [if_neg h]
theorem copies_long (W : World) (n b0 : Int) (A : Option Addr) (c : Nat) (l : List Int) (hl : 60 < l.length) :
    Calls Try.prog 6 #[.int .u16 n, .slice A l.length c, .int .i64 b0] W fun e w' => e = .returned (.bool true) ∧ Below W.heap.size W w' := by
  have d : decide (60 < (l.length : Int)) = true := decide_eq_true (by omega)
  clear hl
  go_enter Try.func6, Try.ntmps6
  go_wp2_with fail
  refine (lives_calls _).mono ?_
  rintro e w1 ⟨rfl, hb⟩
  have HB1 := Aside0.mk hb
  clear hb
  go_wp2_with fail
  refine (lives_calls _).mono ?_
  rintro e w2 ⟨rfl, hb⟩
  have HB2 := Aside0.mk (below_then HB1.out HB1.out.size hb)
  clear hb
  go_wp2_with fail
  go_ret
  exact ⟨rfl, HB2.out⟩
/-- One block put, or dropped. -/
theorem put1 {W : World} {g b : Nat} {m : List Bool} (h : Holds W g b m) (hn : m.length ≤ 65534) (x : Int) (hx : -9223372036854775808 ≤ x ∧ x ≤ 9223372036854775807) :
    Calls Try.prog 14 #[.pointer (some ⟨g, 0, none⟩), .slice (some ⟨W.heap.size, 0, none⟩) 1 1] (W.alloc (.cells #[.int .i64 x] 3)) fun e w' => e = .returned (.int .i64 ((turnB false m [x]).2 : Nat)) ∧ Holds w' g b (turnB false m [x]).1 ∧ W.grownBy w' (some b) := by
  refine (putH (h.alloc _) hn (some ⟨W.heap.size, 0, none⟩) 1 [x] (row_C W [x] 3 (by simp)) (fun ad e _ => by cases e; exact Nat.ne_of_gt h.lt.2.1) (by simp) (by simpa using hx)).mono ?_
  rintro e w' ⟨he, h1, h2, _⟩
  exact ⟨he, h1, grown_trans (grown_alloc (World.grownBy.refl _ _) _) h2⟩
theorem drop1 {W : World} {g b : Nat} {m : List Bool} (h : Holds W g b m) (hn : m.length ≤ 65534) (x : Int) (hx : -9223372036854775808 ≤ x ∧ x ≤ 9223372036854775807) :
    Calls Try.prog 27 #[.pointer (some ⟨g, 0, none⟩), .slice (some ⟨W.heap.size, 0, none⟩) 1 1] (W.alloc (.cells #[.int .i64 x] 3)) fun e w' => e = .returned (.int .i64 ((turnB true m [x]).2 : Nat)) ∧ Holds w' g b (turnB true m [x]).1 ∧ W.grownBy w' (some b) := by
  refine (dropH (h.alloc _) hn (some ⟨W.heap.size, 0, none⟩) 1 [x] (row_C W [x] 3 (by simp)) (fun ad e _ => by cases e; exact Nat.ne_of_gt h.lt.2.1) (by simp) (by simpa using hx)).mono ?_
  rintro e w' ⟨he, h1, h2, _⟩
  exact ⟨he, h1, grown_trans (grown_alloc (World.grownBy.refl _ _) _) h2⟩
set_option maxHeartbeats 4000000 in
theorem copies_short (W : World) (n b0 : Int) (A : Option Addr) (c : Nat) (l : List Int) (hl : l.length ≤ 60) (hn : 0 ≤ n ∧ n < 65536) (hb0 : -9223372036854775808 ≤ b0 ∧ b0 ≤ 9223372036854775807) (hC : Kd.C (Kd.int .i64) W A l.length l) (hr : ∀ x ∈ l, -9223372036854775808 ≤ x ∧ x ≤ 9223372036854775807) :
    Calls Try.prog 6 #[.int .u16 n, .slice A l.length c, .int .i64 b0] W fun e w' => e = .returned (.bool true) ∧ Below W.heap.size W w' := by
  have d : decide (60 < (l.length : Int)) = false := decide_eq_false (by omega)
  have HL := Aside0.mk hl
  have HC := Aside0.mk hC
  have HR := Aside0.mk hr
  obtain ⟨N, hN⟩ := Int.eq_ofNat_of_zero_le (show 0 ≤ n % 300 by omega)
  have hN3 : N < 300 := by omega
  have et : Int.tmod n 300 = (N : Int) := by rw [Int.tmod_eq_emod_of_nonneg hn.1, hN]
  have ew : wrap64 (N : Int) = (N : Int) := Math.w64 (by omega) (by omega)
  have hcl : clampN (N : Int) = N := by unfold clampN; (repeat' split) <;> omega
  have hcl1 : clampN ((N : Int) + 1) = N + 1 := by unfold clampN; (repeat' split) <;> omega
  have HCL := Aside0.mk hcl
  have HCL1 := Aside0.mk hcl1
  clear hl hC hr hcl hcl1 hn
  go_enter Try.func6, Try.ntmps6
  go_wp2_with fail
  refine (lives_calls _).mono ?_
  rintro e w1 ⟨rfl, hb⟩
  have HB1 := Aside0.mk hb
  have HC1 := Aside0.mk (Kd.C_below HC.out hb)
  clear hb HC
  go_wp2_with fail
  refine (newH _ _).mono ?_
  rintro e w2 ⟨g, b, rfl, hH, hg, hb, hB⟩
  rw [HCL.out] at hH
  have HH2 := Aside0.mk hH
  have HB2 := Aside0.mk (below_then HB1.out HB1.out.size hB)
  have HC2 := Aside0.mk (Kd.C_below HC1.out hB)
  have hlt := arg_lt HC1.out
  have hbb : W.heap.size ≤ b := Nat.le_trans HB1.out.size hb
  have HA := Aside0.mk (show ∀ ad, A = some ad → 0 < l.length → ad.block ≠ b from fun ad e h => by have := hlt ad e h; omega)
  clear hH hB hlt HC1 HB1 HCL
  go_wp2_with fail
  refine (putH HH2.out (by simp; omega) A c l HC2.out HA.out (by have := HL.out; omega) HR.out).mono ?_
  rintro e w3 ⟨rfl, hH, hG, hS⟩
  have hlen := turnB_length false (List.replicate N false) l
  rw [List.length_replicate] at hlen
  generalize (turnB false (List.replicate N false) l).1 = m at hH hlen
  generalize (turnB false (List.replicate N false) l).2 = kk
  have HH3 := Aside0.mk hH
  have HB3 := Aside0.mk (pw_below_grown HB2.out (some b) HB2.out.size hG (fun k hk => by cases hk; exact hbb))
  have HLEN := Aside0.mk hlen
  have HM := Aside0.mk (show m.length ≤ 65534 by omega)
  clear hH hG hS HH2 HB2 HC2 HA HL HR hlen hg hb hbb
  go_wp2_with fail
  refine (copyH HH3.out HM.out).mono ?_
  rintro e w4 ⟨g', b', rfl, hH', hg', hb', hB'⟩
  have HH4 := Aside0.mk hH'
  have HG4 := Aside0.mk (HH3.out.below hB')
  have HB4 := Aside0.mk (below_then HB3.out HB3.out.size hB')
  have HNE := Aside0.mk (show g ≠ b' ∧ b ≠ b' ∧ W.heap.size ≤ b' from by have h1 := HH3.out.lt; have h2 := HB3.out.size; omega)
  clear hH' hB' HH3 HB3 hg' hb'
  go_wp2_with fail
  refine (mapSameH HH4.out HG4.out HM.out HM.out).mono ?_
  rintro e w5 ⟨rfl, n5, rfl⟩
  rw [decide_eq_true rfl]
  go_wp2_with fail
  refine (countH (HH4.out.drewN n5) HM.out).mono ?_
  rintro e w6 ⟨rfl, rfl⟩
  go_wp2_with fail
  refine (countH (HG4.out.drewN n5) HM.out).mono ?_
  rintro e w6 ⟨rfl, rfl⟩
  have hcc : (((m.count true : Nat) : Int) != ((m.count true : Nat) : Int)) = false := by simp
  go_wp2_with fail
  refine (nilSame0 _).mono ?_
  rintro e w6 ⟨rfl, rfl⟩
  go_wp2_with fail
  refine (nilSame1 _ _).mono ?_
  rintro e w6 ⟨rfl, rfl⟩
  go_wp2_with fail
  refine (nilSame2 _ _).mono ?_
  rintro e w6 ⟨rfl, rfl⟩
  go_wp2_with fail
  refine (newH _ _).mono ?_
  rintro e w7 ⟨g7, b7, rfl, hH7, hg7, hb7, hB7⟩
  rw [HCL1.out] at hH7
  have HH7 := Aside0.mk ((HH4.out.drewN n5).below hB7)
  have HG7 := Aside0.mk ((HG4.out.drewN n5).below hB7)
  have HB7 := Aside0.mk (below_then (pw_below_drewN HB4.out n5) (pw_below_drewN HB4.out n5).size hB7)
  have HN7 := Aside0.mk hH7
  clear hH7 hg7 hb7 hB7 HB4 HH4 HG4 hcc
  go_wp2_with fail
  refine (mapSameH HG7.out HN7.out HM.out (by simp; omega)).mono ?_
  rintro e w8 ⟨rfl, n8, rfl⟩
  rw [decide_eq_false (show ¬ m = List.replicate (N + 1) false from fun h => by have := HLEN.out; rw [h] at this; simp at this)]
  have HH8 := Aside0.mk (HH7.out.drewN n8)
  have HG8 := Aside0.mk (HG7.out.drewN n8)
  have HB8 := Aside0.mk (pw_below_drewN HB7.out n8)
  generalize w7.drewN n8 = w8 at HH8 HG8 HB8 ⊢
  clear HH7 HG7 HB7 HN7
  go_wp2_with fail
  refine (hasH HG8.out HM.out b0 hb0.1 hb0.2).mono ?_
  rintro e w9 ⟨rfl, rfl⟩
  go_wp2_with fail
  refine (put1 HH8.out HM.out b0 hb0).mono ?_
  rintro e w10 ⟨rfl, hH10, hG10⟩
  have HG10 := Aside0.mk (HG8.out.far hG10 HNE.out.1 HNE.out.2.1)
  have HB10 := Aside0.mk (pw_below_grown HB8.out (some b') HB8.out.size hG10 (fun k hk => by cases hk; exact HNE.out.2.2))
  have hl10 := turnB_length false m [b0]
  have HH10 := Aside0.mk hH10
  have HM10 := Aside0.mk (show (turnB false m [b0]).1.length ≤ 65534 by rw [hl10]; exact HM.out)
  clear hH10 hG10 HH8 HG8 HB8
  go_wp2_with fail
  refine (drop1 HH10.out HM10.out b0 hb0).mono ?_
  rintro e w11 ⟨rfl, hH11, hG11⟩
  have HG11 := Aside0.mk (HG10.out.far hG11 HNE.out.1 HNE.out.2.1)
  have HB11 := Aside0.mk (pw_below_grown HB10.out (some b') HB10.out.size hG11 (fun k hk => by cases hk; exact HNE.out.2.2))
  have HH11 := Aside0.mk hH11
  clear hH11 hG11 HH10 HG10 HB10 HM10 hl10
  by_cases hh : hasAt m b0 = true
  · have h0 : 0 ≤ b0 := by unfold hasAt at hh; simp at hh; exact hh.1
    have h1 : b0 < m.length := by unfold hasAt at hh; simp at hh; exact hh.2.1
    obtain ⟨B, rfl⟩ := Int.eq_ofNat_of_zero_le h0
    have hB : B < m.length := by omega
    have hm : m.getD B false = true := by rw [← hasAt_nat]; exact hh
    have e1 : turnB false m [(B : Int)] = (m, 0) := turn_no (by rw [hh]; simp)
    have e2 : turnB true m [(B : Int)] = (m.set B false, 1) := by rw [turn_yes (by rw [hh]; rfl) h0 h1, Int.toNat_natCast]; rfl
    have hset : hasAt (m.set B false) (B : Int) = false := by rw [hasAt_nat]; simp [List.getD_eq_getElem?_getD, hB]
    have e3 : turnB false (m.set B false) [(B : Int)] = (m, 1) := by
      rw [turn_yes (by rw [hset]; rfl) h0 (by simpa using h1), Int.toNat_natCast]
      congr 1
      apply ext_getD (by simp)
      intro j
      by_cases ej : B = j
      · subst ej; rw [hm]; simp [List.getD_eq_getElem?_getD, hB]
      · simp [List.getD_eq_getElem?_getD, List.getElem?_set_ne ej]
    have hne : ¬ (m.set B false = m) := fun h => by rw [h] at hset; rw [hset] at hh; cases hh
    rw [e1, e2] at HH11 ⊢
    have HE := Aside0.mk (And.intro hh (And.intro e3 hne))
    have HB' := Aside0.mk hb0
    clear e1 e2 e3 hne hset hm h0 h1 hh hb0
    rw [HE.out.1]
    go_wp2_with fail
    refine (mapSameH HH11.out HG11.out (by simpa using HM.out) HM.out).mono ?_
    rintro e w12 ⟨rfl, n12, rfl⟩
    rw [decide_eq_false HE.out.2.2]
    go_wp2_with fail
    refine (put1 (HH11.out.drewN n12) (by simpa using HM.out) (B : Int) HB'.out).mono ?_
    rintro e w13 ⟨rfl, hH13, hG13⟩
    have HG13 := Aside0.mk ((HG11.out.drewN n12).far hG13 HNE.out.1 HNE.out.2.1)
    have HB13 := Aside0.mk (pw_below_grown (pw_below_drewN HB11.out n12) (some b') (pw_below_drewN HB11.out n12).size hG13 (fun k hk => by cases hk; exact HNE.out.2.2))
    rw [HE.out.2.1] at hH13 ⊢
    have HH13 := Aside0.mk hH13
    clear hH13 hG13 HH11 HG11 HB11
    go_wp2_with fail
    refine (mapSameH HH13.out HG13.out HM.out HM.out).mono ?_
    rintro e w14 ⟨rfl, n14, rfl⟩
    rw [decide_eq_true rfl]
    go_wp2_with fail
    go_ret
    exact ⟨rfl, pw_below_drewN HB13.out n14⟩
  · have hf : hasAt m b0 = false := by simpa using hh
    by_cases hin : 0 ≤ b0 ∧ b0 < m.length
    · obtain ⟨h0, h1⟩ := hin
      obtain ⟨B, rfl⟩ := Int.eq_ofNat_of_zero_le h0
      have hB : B < m.length := by omega
      have hm : m.getD B false = false := by rw [← hasAt_nat]; exact hf
      have e1 : turnB false m [(B : Int)] = (m.set B true, 1) := by rw [turn_yes (by rw [hf]; rfl) h0 h1, Int.toNat_natCast]; rfl
      have hset : hasAt (m.set B true) (B : Int) = true := by rw [hasAt_nat]; simp [List.getD_eq_getElem?_getD, hB]
      have e2 : turnB true (m.set B true) [(B : Int)] = (m, 1) := by
        rw [turn_yes (by rw [hset]; rfl) h0 (by simpa using h1), Int.toNat_natCast]
        congr 1
        apply ext_getD (by simp)
        intro j
        by_cases ej : B = j
        · subst ej; rw [hm]; simp [List.getD_eq_getElem?_getD, hB]
        · simp [List.getD_eq_getElem?_getD, List.getElem?_set_ne ej]
      rw [e1] at HH11 ⊢
      rw [e2] at HH11 ⊢
      have HE := Aside0.mk hf
      have d1 : decide (0 ≤ (B : Int)) = true := decide_eq_true h0
      have d2 : decide ((B : Int) < (m.length : Int)) = true := decide_eq_true h1
      have d3 : decide (B < m.length) = true := decide_eq_true hB
      clear e1 e2 hset hm h0 h1 hh hb0 hf
      rw [HE.out]
      go_wp2_with fail
      refine (mapSameH HH11.out HG11.out HM.out HM.out).mono ?_
      rintro e w12 ⟨rfl, n12, rfl⟩
      rw [decide_eq_true rfl]
      go_wp2_with fail
      refine (lenH (HG11.out.drewN n12)).mono ?_
      rintro e w13 ⟨rfl, rfl⟩
      go_wp2_with fail
      go_ret
      exact ⟨rfl, pw_below_drewN HB11.out n12⟩
    · have e1 : turnB false m [b0] = (m, 0) := turn_no (fun h => hin h.2)
      have e2 : turnB true m [b0] = (m, 0) := turn_no (fun h => hin h.2)
      rw [e1] at HH11 ⊢
      rw [e2] at HH11 ⊢
      have HE := Aside0.mk hf
      clear e1 e2 hh hb0 hf
      rw [HE.out]
      by_cases h0 : 0 ≤ b0
      · have d1 : decide (0 ≤ b0) = true := decide_eq_true h0
        have d2 : decide (b0 < (m.length : Int)) = false := decide_eq_false (fun h => hin ⟨h0, h⟩)
        clear hin
        go_wp2_with fail
        refine (mapSameH HH11.out HG11.out HM.out HM.out).mono ?_
        rintro e w12 ⟨rfl, n12, rfl⟩
        rw [decide_eq_true rfl]
        go_wp2_with fail
        refine (lenH (HG11.out.drewN n12)).mono ?_
        rintro e w13 ⟨rfl, rfl⟩
        go_wp2_with fail
        go_ret
        exact ⟨rfl, pw_below_drewN HB11.out n12⟩
      · have d1 : decide (0 ≤ b0) = false := decide_eq_false h0
        clear hin
        go_wp2_with fail
        refine (mapSameH HH11.out HG11.out HM.out HM.out).mono ?_
        rintro e w12 ⟨rfl, n12, rfl⟩
        rw [decide_eq_true rfl]
        go_wp2_with fail
        go_ret
        exact ⟨rfl, pw_below_drewN HB11.out n12⟩
theorem copies_all (W : World) (n b0 : Int) (A : Option Addr) (c : Nat) (l : List Int) (hn : 0 ≤ n ∧ n < 65536) (hb0 : -9223372036854775808 ≤ b0 ∧ b0 ≤ 9223372036854775807) (hC : Kd.C (Kd.int .i64) W A l.length l) (hr : ∀ x ∈ l, -9223372036854775808 ≤ x ∧ x ≤ 9223372036854775807) :
    Calls Try.prog 6 #[.int .u16 n, .slice A l.length c, .int .i64 b0] W fun e w' => e = .returned (.bool true) ∧ Below W.heap.size W w' := by
  by_cases hl : l.length ≤ 60
  · exact copies_short W n b0 A c l hl hn hb0 hC hr
  · exact copies_long W n b0 A c l (by omega)
end Go.Proofs.Ytcknljndogbbhaa.Bm
