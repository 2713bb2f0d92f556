/- RunOnce: the walk through the law function: for every number, every list of blocks and every length it returns true. Conditions: as each lemma says. -/
import Derived.Test.YtcknljndogbbhaaRn5
namespace Go.Proofs.Ytcknljndogbbhaa.Rn
open Go.RowKit Go.Proofs.Ytcknljndogbbhaa Go.Proofs.Ytcknljndogbbhaa.Bm Go.Proofs.Ytcknljndogbbhaa.PAll Go.Proofs.YtcknljndogbbhaaW.PrintWords Go.Proofs.YtcknljndogbbhaaW.PrintLast Go.Proofs.YtcknljndogbbhaaW.PrintMore
attribute [local go_sem] max2_int min2_int max_two min_two
set_option linter.unusedVariables false
theorem once_long (W : World) (n k : Int) (A : Option Addr) (c : Nat) (l : List Int) (hl : 200 < l.length) :
    Calls Try.prog 10 #[.int .u16 n, .slice A l.length c, .int .u16 k] W fun e w' => e = .returned (.bool true) ∧ Below W.heap.size W w' := by
  have d : decide (200 < (l.length : Int)) = true := decide_eq_true (by omega)
  clear hl
  go_enter Try.func10, Try.ntmps10
  go_wp2_with fail
  refine (lives11 _).mono ?_
  rintro e w1 ⟨rfl, hb⟩
  have HB1 := Aside0.mk hb
  clear hb
  go_wp2_with fail
  refine (lives11 _).mono ?_
  rintro e w2 ⟨rfl, hb⟩
  have HB2 := Aside0.mk (below_then HB1.out HB1.out.size hb)
  clear hb
  go_wp2_with fail
  go_ret
  exact ⟨rfl, HB2.out⟩
theorem chain_sum : ∀ (rs : List S60) (m : List Bool) (p : Int), Chain m p rs → 0 ≤ sumR rs
  | [], _, _, _ => by simp [sumR]
  | r :: rs, m, p, ⟨_, h2, _, _, h5⟩ => by
    have := chain_sum rs m _ h5
    have e : sumR (r :: rs) = r.f1 + sumR rs := by simp [sumR]
    omega
set_option maxHeartbeats 8000000 in
theorem once_short (W : World) (n k : Int) (A : Option Addr) (c : Nat) (l : List Int) (hl : l.length ≤ 200) (hn : 0 ≤ n ∧ n < 65536) (hk : 0 ≤ k ∧ k < 65536) (hC : Kd.C (Kd.int .u16) W A l.length l) (hr : ∀ x ∈ l, 0 ≤ x ∧ x < 65536) :
    Calls Try.prog 10 #[.int .u16 n, .slice A l.length c, .int .u16 k] W fun e w' => e = .returned (.bool true) ∧ Below W.heap.size W w' := by
  have d : decide (200 < (l.length : Int)) = false := decide_eq_false (by omega)
  have HL := Aside0.mk hl
  have HC := Aside0.mk hC
  have HR := Aside0.mk hr
  have HNN := Aside0.mk hn
  have HK := Aside0.mk hk
  have hn3 : (n % 200).toNat < 200 := by omega
  generalize hN : 1 + (n % 200).toNat = N at hn3
  have HN := Aside0.mk (show N ≤ 200 by omega)
  have HNe := Aside0.mk hN
  clear hl hC hr hk hn hn3 hN
  go_enter Try.func10, Try.ntmps10
  go_wp2_with fail
  refine (lives11 _).mono ?_
  rintro e w1 ⟨rfl, hb⟩
  have HB1 := Aside0.mk hb
  have HC1 := Aside0.mk (Kd.C_below HC.out hb)
  clear hb HC
  go_wp2_with fail
  refine (drawH _ n HNN.out A c l HL.out HC1.out HR.out).mono ?_
  rintro e w2 ⟨g, b, v, m, rfl, hH, hlen, hR, hg, hb, hB⟩
  rw [HNe.out] at hlen
  have hm200 : m.length ≤ 200 := by rw [hlen]; exact HN.out
  have HM := Aside0.mk hm200
  have HH2 := Aside0.mk hH
  have HB2 := Aside0.mk (below_then HB1.out HB1.out.size hB)
  have hb2 : W.heap.size ≤ b := by have := HB1.out.size; omega
  have HBb := Aside0.mk hb2
  clear hH hlen hR hg hb hB HC1 HL HR HB1 HN HNe HNN hb2
  go_wp2_with fail
  refine (copyH HH2.out (by have := HM.out; omega)).mono ?_
  rintro e w3 ⟨g', b', rfl, hH3, hg', hb', hB3⟩
  have HH3 := Aside0.mk (HH2.out.below hB3)
  have HW3 := Aside0.mk hH3
  have HB3 := Aside0.mk (below_then HB2.out HB2.out.size hB3)
  have hlt2 := HH2.out.lt
  have HNE := Aside0.mk (show b ≠ g' ∧ b ≠ b' ∧ W.heap.size ≤ b' ∧ g' ≠ b ∧ b' ≠ b ∧ g ≠ b' from by have h2 := HB2.out.size; omega)
  clear hH3 hg' hb' hB3 hlt2 HH2 HB2
  go_wp2_with fail
  refine (lenH HH3.out).mono ?_
  rintro e w5 ⟨rfl, rfl⟩
  obtain ⟨C, hCk⟩ := Int.eq_ofNat_of_zero_le (show 0 ≤ k % ((m.length : Int) + 2) from Int.emod_nonneg _ (by omega))
  have hC3 : k % ((m.length : Int) + 2) < (m.length : Int) + 2 := Int.emod_lt_of_pos _ (by omega)
  have HCC := Aside0.mk (show C < m.length + 2 by omega)
  have hk := HK.out
  have et : Int.tmod k ((m.length : Int) + 2) = (C : Int) := by rw [Int.tmod_eq_emod_of_nonneg hk.1, hCk]
  have ew : wrap64 k = k := Math.w64 (by omega) (by omega)
  have ed : (((m.length : Int) + 2) == 0) = false := by simp; omega
  have ed1 : (((m.length : Int) + 2) == -1) = false := by simp; omega
  clear hC3 hCk HK hk
  go_wp2_with fail
  by_cases ht : takeOk m (C : Int) = true
  · have hpl := pick_length m (C : Int)
    have hlaw := pick_law m (by have := HM.out; omega) (C : Int) ht
    refine (take_own HH3.out (by have := HM.out; omega) (C : Int) ht trivial).mono ?_
    rintro e w4 ⟨A4, c4, rfl, hc4, hC4, hH4, hG4, hA4⟩
    generalize pickOf m (C : Int) = rs at hpl hlaw hC4 hc4 hH4 ⊢
    have hml := takeM_length rs m
    obtain ⟨M', hM'⟩ : ∃ x, takeM m rs = x := ⟨_, rfl⟩
    rw [hM'] at hH4 hml
    have HH4 := Aside0.mk hH4
    have HW4 := Aside0.mk (HW3.out.far hG4 HNE.out.2.2.2.1 HNE.out.2.2.2.2.1)
    have HC4 := Aside0.mk hC4
    have HA4 := Aside0.mk (show ∀ ad, A4 = some ad → ad.block ≠ b' from fun ad e => by have := hA4 ad e; have := HW3.out.lt; omega)
    have HB4 := Aside0.mk (pw_below_grown HB3.out (some b) HB3.out.size hG4 (fun k hk => by cases hk; exact HBb.out))
    have HCH := Aside0.mk hlaw.1
    have HSU := Aside0.mk hlaw.2
    have HML := Aside0.mk hml
    have HTM := Aside0.mk hM'
    have HPL := Aside0.mk (show rs.length ≤ 300 by have := HM.out; omega)
    clear hpl hlaw hc4 hC4 hH4 hG4 hA4 hM' hml HH3 HW3 HB3 et ew ed ed1 ht
    go_wp2_with fail
    go_loopw [13, 14, 64] (fun v13 v14 v64 wr => ∃ (i kk : Nat) (E : Int) (mw : List Bool), i ≤ rs.length ∧ v64 = .int .i64 i ∧ v13 = .int .i64 kk ∧ v14 = .int .i64 E ∧ -1 ≤ E ∧ Aside0 ((kk : Int) + sumR (rs.drop i) = C) ∧ Aside0 (Chain mw E (rs.drop i)) ∧ Aside0 (takeM mw (rs.drop i) = M') ∧ Aside0 (mw.length = m.length) ∧ Aside0 (Holds wr g' b' mw) ∧ Aside0 (Holds wr g b M') ∧ Aside0 (Kd.C k60 wr A4 rs.length rs) ∧ Aside0 (Below W.heap.size W wr)) (fun _ _ v64 _ => rs.length - (intOf v64).toNat)
    case atStart => exact ⟨0, 0, -1, m, Nat.zero_le _, rfl, rfl, rfl, by omega, ⟨by rw [List.drop_zero]; have := HSU.out; omega⟩, ⟨by rw [List.drop_zero]; exact HCH.out⟩, ⟨by rw [List.drop_zero]; exact HTM.out⟩, ⟨rfl⟩, HW4, HH4, HC4, HB4⟩
    case round =>
      obtain ⟨i, kk, E, mw, hi, rfl, rfl, rfl, hE, HKr, HCHr, HTr, HMr, HWr, HHr, HCr, HBr⟩ := hrel
      have hpl := HPL.out
      have hm := HM.out
      have hcc := HCC.out
      by_cases hlt : i < rs.length
      · obtain ⟨ad, eA, q0, q1⟩ := runs_at HCr.out i hlt
        subst eA
        have hd : rs.drop i = rs[i] :: rs.drop (i + 1) := List.drop_eq_getElem_cons hlt
        have HKx := Aside0.mk (hd ▸ HKr.out)
        have HCx := Aside0.mk (hd ▸ HCHr.out)
        have HTx := Aside0.mk (hd ▸ HTr.out)
        clear HKr HCHr HTr hd
        generalize hrest : rs.drop (i + 1) = rest at HKx HCx HTx
        have HRE := Aside0.mk hrest
        clear hrest
        generalize rs[i] = r at q0 q1 HKx HCx HTx
        obtain ⟨f0, f1⟩ := r
        have hcx := HCx.out
        obtain ⟨c1, c2', c3, c4', c5⟩ := hcx
        dsimp only at c1 c2' c3 q0 q1
        have hsr := chain_sum _ _ _ c5
        have hks : sumR ((⟨f0, f1⟩ : S60) :: rest) = f1 + sumR rest := by simp [sumR]
        have hkx := HKx.out
        rw [hks] at hkx
        have hmw := HMr.out
        obtain ⟨s, rfl⟩ := Int.eq_ofNat_of_zero_le (show 0 ≤ f0 by omega)
        obtain ⟨dd, rfl⟩ := Int.eq_ofNat_of_zero_le (show 0 ≤ f1 by omega)
        have hn5 := chain_next hE HCx.out
        have hmk := fun (q : Nat) => marked hE HCx.out q
        have hTn : takeM (putsB dd (s : Int) mw) rest = M' := by
          rw [← HTx.out]
          show _ = takeM (rangeE mw (s : Int) (dd : Int)) rest
          rw [show rangeE mw (s : Int) (dd : Int) = _ from range_chain (r := ⟨(s : Int), (dd : Int)⟩) (by show (0 : Int) ≤ s; omega) c2' c3 c4']
          simp
        dsimp only at hn5 hmk
        rw [Int.toNat_natCast] at hn5 hmk
        rw [hTn] at hmk
        have HKY := Aside0.mk hkx
        have HTN := Aside0.mk hTn
        have HN5 := Aside0.mk hn5
        have HMK := Aside0.mk hmk
        have HFR := Aside0.mk (show ∀ j, j < dd → (putsB j (s : Int) mw).getD (s + j) false = false from fun j hj => by
          rw [puts_get mw s j (by omega) (fun q a b => c4' q (by show (s : Int) ≤ q; omega) (by show (q : Int) < (s : Int) + dd; omega)), c4' (s + j) (by show (s : Int) ≤ _; omega) (by show ((s + j : Nat) : Int) < (s : Int) + dd; omega), decide_eq_false (show ¬ s + j < s + j by omega)]; simp)
        have hkb : kk + dd ≤ 202 := by omega
        have hsd : s + dd ≤ 200 := by omega
        have d1 : decide ((dd : Int) < 1) = false := decide_eq_false (by omega)
        have d2 : decide ((s : Int) ≤ E) = false := decide_eq_false (by omega)
        clear c4' c5 hsr hks hkx hn5 hmk hTn HCx HTx HKx
        go_wp2_with fail
        have HX := Aside0.mk (heap_alloc_new wr (.cells #[.int .i64 s, .int .i64 dd] 60))
        have HXN := Aside0.mk (show wr.heap.size ≠ b' by have := HWr.out.lt; omega)
        have HWi := Aside0.mk (HWr.out.alloc (.cells #[.int .i64 s, .int .i64 dd] 60))
        have HHi := Aside0.mk (HHr.out.alloc (.cells #[.int .i64 s, .int .i64 dd] 60))
        have HCi := Aside0.mk (Kd.C_below HCr.out (below_alloc (Below.refl _ _) (.cells #[.int .i64 s, .int .i64 dd] 60)))
        have HBi := Aside0.mk (below_alloc HBr.out (.cells #[.int .i64 s, .int .i64 dd] 60))
        generalize wr.alloc (.cells #[.int .i64 s, .int .i64 dd] 60) = wx at HX HWi HHi HCi HBi ⊢
        generalize wr.heap.size = x at HX HXN ⊢
        clear HWr HHr HCr HBr q0 q1
        go_loopw [13, 17] (fun v13 v17 wi => ∃ j : Nat, j ≤ dd ∧ v13 = .int .i64 ((kk : Int) + (j : Int)) ∧ v17 = .int .i64 ((s : Int) + (j : Int)) ∧ Aside0 (wi.heap[x]? = some (.cells #[.int .i64 s, .int .i64 dd] 60 (0, 0))) ∧ Aside0 (Holds wi g' b' (putsB j (s : Int) mw)) ∧ Aside0 (Holds wi g b M') ∧ Aside0 (Kd.C k60 wi (some ad) rs.length rs) ∧ Aside0 (Below W.heap.size W wi)) (fun _ v17 _ => dd - ((intOf v17).toNat - s))
        case atStart => exact ⟨0, Nat.zero_le _, by simp, by simp, HX, HWi, HHi, HCi, HBi⟩
        case round =>
          obtain ⟨j, hj, rfl, rfl, HXj, HWj, HHj, HCj, HBj⟩ := hrel
          have X0 := cell2_0 HXj.out
          have X1 := cell2_1 HXj.out
          by_cases hjd : j < dd
          · have hf := HFR.out j hjd
            have hg := HMK.out (s + j) (by omega) (by omega)
            have hpl2 := putsB_length j (s : Int) mw
            have ht1 := turn1_get (putsB j (s : Int) mw) false (s + j) 0 (by omega) hf
            have ht2 := ht1.2
            have dl : decide ((s : Int) + (j : Int) < (s : Int) + (dd : Int)) = true := decide_eq_true (by omega)
            clear ht1
            go_wp2_with fail
            refine (hasH HWj.out (by omega) ((s + j : Nat) : Int) (by omega) (by omega)).mono ?_
            rintro e w5 ⟨rfl, rfl⟩
            rw [hasAt_nat, hf]
            go_wp2_with fail
            refine (hasH HHj.out (by have := HML.out; omega) ((s + j : Nat) : Int) (by omega) (by omega)).mono ?_
            rintro e w5 ⟨rfl, rfl⟩
            rw [hasAt_nat, hg]
            go_wp2_with fail
            refine (putH (HWj.out.alloc _) (by omega) (some ⟨_, 0, none⟩) 1 [((s + j : Nat) : Int)] (row_C _ [((s + j : Nat) : Int)] 3 (by simp)) (fun ad e _ => by cases e; exact Nat.ne_of_gt HWj.out.lt.2.1) (by simp) (by simp; omega)).mono ?_
            rintro e w6 ⟨rfl, hH6, hG6, hS6⟩
            have hGi : World.grownBy _ w6 (some b') := grown_trans (grown_alloc (World.grownBy.refl _ _) _) hG6
            have HXn := Aside0.mk ((hGi.block x (blk_lt HXj.out) (by have := HXN.out; simp [this])).trans HXj.out)
            have HHn := Aside0.mk (HHj.out.far hGi HNE.out.2.2.2.2.2 HNE.out.2.1)
            have HCn := Aside0.mk (C60_keep HCj.out (keep_of hGi) HA4.out)
            have HBn := Aside0.mk (pw_below_grown HBj.out (some b') HBj.out.size hGi (fun k hk => by cases hk; exact HNE.out.2.2.1))
            have HWn := Aside0.mk (show Holds w6 g' b' (putsB (j + 1) (s : Int) mw) from hH6)
            have ht3 : (turnB false (putsB j (s : Int) mw) [((s + j : Nat) : Int)]).2 = 1 := ht2
            rw [ht3]
            clear hH6 hG6 hS6 hGi ht2 ht3 HXj HWj HHj HCj HBj X0 X1 hf hg
            go_wp2_with fail
            go_roundw
            case rel => exact ⟨j + 1, by omega, by go_num, by go_num, HXn, HWn, HHn, HCn, HBn⟩
            case measure => simp [intOf]; omega
          · obtain rfl : j = dd := by omega
            have dl : decide ((s : Int) + (j : Int) < (s : Int) + (j : Int)) = false := decide_eq_false (by omega)
            have hkn := HKY.out
            go_wp2_with fail
            go_roundw
            case rel => exact ⟨i + 1, kk + j, (s : Int) + j, _, by omega, by go_num, by go_num, by go_num, by omega, ⟨by rw [HRE.out]; omega⟩, ⟨by rw [HRE.out]; exact HN5.out⟩, ⟨by rw [HRE.out]; exact HTN.out⟩, ⟨by rw [putsB_length]; exact HMr.out⟩, HWj, HHj, HCj, HBj⟩
            case measure => simp [intOf]; omega
      · obtain rfl : i = rs.length := by omega
        have hk := HKr.out
        have ht := HTr.out
        rw [List.drop_length] at hk ht
        have hk2 : (kk : Int) = (C : Int) := by simp [sumR] at hk; omega
        have hq : ((kk : Int) == (C : Int)) = true := by rw [hk2]; simp
        have ht2 : mw = M' := ht
        subst ht2
        go_wp2_with fail
        refine (mapSameH HHr.out HWr.out (by have := HML.out; omega) (by have := HML.out; omega)).mono ?_
        rintro e w5 ⟨rfl, n5, rfl⟩
        rw [decide_eq_true rfl]
        go_wp2_with fail
        go_ret
        exact ⟨by simp, pw_below_drewN HBr.out n5⟩
  · have ht' : takeOk m (C : Int) = false := by simpa using ht
    refine (take_no HH3.out (by have := HM.out; omega) (C : Int) (by have := HCC.out; have := HM.out; omega) ht').mono ?_
    rintro e w4 ⟨rfl, n4, rfl⟩
    have hF : (m.length : Int) - (m.count true : Nat) < (C : Int) := by
      unfold takeOk at ht'
      rw [decide_eq_true (by omega : (0 : Int) ≤ (C : Int))] at ht'
      simpa using ht'
    have dF : decide ((m.length : Int) - (m.count true : Nat) < (C : Int)) = true := decide_eq_true hF
    have HH4 := Aside0.mk (HH3.out.drewN n4)
    have HW4 := Aside0.mk (HW3.out.drewN n4)
    have HB4 := Aside0.mk (pw_below_drewN HB3.out n4)
    generalize w3.drewN n4 = w4 at HH4 HW4 HB4 ⊢
    have HF4 := Aside0.mk (freeH HW4.out (by have := HM.out; omega))
    generalize (m.length : Int) - (m.count true : Nat) = F at HF4 dF
    clear ht ht' hF HH3 HW3 HB3 et ew ed ed1
    go_wp2_with fail
    refine HF4.out.mono ?_
    rintro e w5 ⟨rfl, n5, rfl⟩
    go_wp2_with fail
    refine (mapSameH (HH4.out.drewN n5) (HW4.out.drewN n5) (by have := HM.out; omega) (by have := HM.out; omega)).mono ?_
    rintro e w6 ⟨rfl, n6, rfl⟩
    rw [decide_eq_true rfl]
    go_wp2_with fail
    go_ret
    exact ⟨by simp, pw_below_drewN HB4.out (n5 + n6)⟩
theorem once_all (W : World) (n k : Int) (A : Option Addr) (c : Nat) (l : List Int) (hn : 0 ≤ n ∧ n < 65536) (hk : 0 ≤ k ∧ k < 65536) (hC : Kd.C (Kd.int .u16) W A l.length l) (hr : ∀ x ∈ l, 0 ≤ x ∧ x < 65536) :
    Calls Try.prog 10 #[.int .u16 n, .slice A l.length c, .int .u16 k] W fun e w' => e = .returned (.bool true) ∧ Below W.heap.size W w' := by
  by_cases hl : l.length ≤ 200
  · exact once_short W n k A c l hl hn hk hC hr
  · exact once_long W n k A c l (by omega)
end Go.Proofs.Ytcknljndogbbhaa.Rn
