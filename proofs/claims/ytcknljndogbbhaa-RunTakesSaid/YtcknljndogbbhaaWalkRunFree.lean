/- RunFree: the walk through the law function: for every number, every list of blocks and every length it returns true. Conditions: as each lemma says. -/
import Derived.Test.YtcknljndogbbhaaRnP
import Derived.Test.YtcknljndogbbhaaRn4
namespace Go.Proofs.Ytcknljndogbbhaa.Rn
open Go.RowKit Go.Proofs.Ytcknljndogbbhaa Go.Proofs.Ytcknljndogbbhaa.Bm Go.Proofs.Ytcknljndogbbhaa.PAll Go.Proofs.YtcknljndogbbhaaW.PrintWords Go.Proofs.YtcknljndogbbhaaW.PrintLast Go.Proofs.YtcknljndogbbhaaW.PrintMore
attribute [local go_sem] max2_int min2_int max_two min_two
set_option linter.unusedVariables false
theorem eq64 (x0 y0 x1 y1 : Int) (w : World) : (binOp .eql 64 (.agg #[.int .i64 x0, .int .i64 x1]) (.agg #[.int .i64 y0, .int .i64 y1])).run Try.prog w = .ok (.bool (x0 == y0 && (x1 == y1))) w := by
  simp only [binOp]
  simp [Op.equal, Op.maxDepth, eqA64 9998]
theorem cell2_0 {W : World} {g : Nat} {x y : Value} {t : TypeId} (h : W.heap[g]? = some (.cells #[x, y] t (0, 0))) : W.cell? ⟨g, 0, none⟩ = some x := by
  simp [World.cell?, h]
theorem cell2_1 {W : World} {g : Nat} {x y : Value} {t : TypeId} (h : W.heap[g]? = some (.cells #[x, y] t (0, 0))) : W.cell? ⟨g, 1, none⟩ = some y := by
  simp [World.cell?, h]
theorem runs_facts (m : List Bool) (hm : m.length ≤ 65534) (K : Nat) (hK : 70000 < K) : ∃ (rs : List S60) (rc : List S64), runsOf m = rs ∧ rs.map conv = rc ∧ rs.length ≤ 70000 ∧ cantleref11_Free.f K m = some rc ∧ cantlelaw11_same.f K rs rc = some true ∧ run_Total.f K rs = some ((m.length : Int) - (m.count true : Nat)) := by
  have h1 := runs_few m hm
  refine ⟨_, _, rfl, rfl, by omega, free_f m hm K (by omega), rsame_f _ (by omega) K (by omega), ?_⟩
  rw [total_f _ (by omega) (fun r hr => ?_) K (by omega), sumR_runs]
  have := freeR_bd m hm _ _ (Nat.zero_le _) r hr
  omega
theorem free_long (W : World) (n k : Int) (A : Option Addr) (c : Nat) (l : List Int) (hl : 200 < l.length) :
    Calls Try.prog 8 #[.int .u16 n, .slice A l.length c, .int .i64 k] W fun e w' => e = .returned (.bool true) ∧ Below W.heap.size W w' := by
  have d : decide (200 < (l.length : Int)) = true := decide_eq_true (by omega)
  clear hl
  go_enter Try.func8, Try.ntmps8
  go_wp2_with fail
  refine (lives11 _).mono ?_
  rintro e w1 ⟨rfl, hb⟩
  have HB1 := Aside0.mk hb
  clear hb
  go_wp2_with fail
  refine (lives11 _).mono ?_
  rintro e w2 ⟨rfl, hb⟩
  have HB2 := Aside0.mk (below_then HB1.out HB1.out.size hb)
  clear hb
  go_wp2_with fail
  go_ret
  exact ⟨rfl, HB2.out⟩
set_option maxHeartbeats 4000000 in
theorem free_short (W : World) (n k : Int) (A : Option Addr) (c : Nat) (l : List Int) (hl : l.length ≤ 200) (hn : 0 ≤ n ∧ n < 65536) (hk : -9223372036854775808 ≤ k ∧ k ≤ 9223372036854775807) (hC : Kd.C (Kd.int .u16) W A l.length l) (hr : ∀ x ∈ l, 0 ≤ x ∧ x < 65536) :
    Calls Try.prog 8 #[.int .u16 n, .slice A l.length c, .int .i64 k] W fun e w' => e = .returned (.bool true) ∧ Below W.heap.size W w' := by
  have d : decide (200 < (l.length : Int)) = false := decide_eq_false (by omega)
  have HL := Aside0.mk hl
  have HC := Aside0.mk hC
  have HR := Aside0.mk hr
  have HK := Aside0.mk hk
  have HNN := Aside0.mk hn
  have hn3 : (n % 200).toNat < 200 := by omega
  generalize hN : 1 + (n % 200).toNat = N at hn3
  have HN := Aside0.mk (show N ≤ 200 by omega)
  have HNe := Aside0.mk hN
  obtain ⟨K, hK⟩ : ∃ K : Nat, 70000 < K := ⟨70001, by omega⟩
  have HKK := Aside0.mk hK
  clear hl hC hr hk hn hn3 hN hK
  go_enter Try.func8, Try.ntmps8
  go_wp2_with fail
  refine (lives11 _).mono ?_
  rintro e w1 ⟨rfl, hb⟩
  have HB1 := Aside0.mk hb
  have HC1 := Aside0.mk (Kd.C_below HC.out hb)
  clear hb HC
  go_wp2_with fail
  refine (drawH _ n HNN.out A c l HL.out HC1.out HR.out).mono ?_
  rintro e w2 ⟨g, b, v, m, rfl, hH, hlen, hR, hg, hb, hB⟩
  rw [HNe.out] at hlen
  have HM := Aside0.mk (show m.length ≤ 200 by rw [hlen]; exact HN.out)
  obtain ⟨A2, c2, rfl, hc2, hC2⟩ := Kd.R_reads hR
  have HH2 := Aside0.mk hH
  have HC2 := Aside0.mk hC2
  have HCC := Aside0.mk hc2
  have HB2 := Aside0.mk (below_then HB1.out HB1.out.size hB)
  clear hH hlen hR hg hb hB hc2 hC2 HC1 HL HR HB1 HN HNe HNN
  go_wp2_with fail
  refine (fitH HH2.out (by have := HM.out; omega) k HK.out).mono ?_
  rintro e w3 ⟨rfl, hB3⟩
  have HFIT := Aside0.mk (fit_f m (by have := HM.out; omega) k K HKK.out)
  generalize fitOf m k = ft at HFIT ⊢
  obtain ⟨f0, f1, f2⟩ := ft
  have HH3 := Aside0.mk (HH2.out.below hB3)
  have HC3 := Aside0.mk (Kd.C_below HC2.out hB3)
  have HB3 := Aside0.mk (below_then HB2.out HB2.out.size hB3)
  clear hB3 HH2 HC2 HB2
  go_wp2_with fail
  refine (cantleref11_Fit.calls K A2 c2 m k f0 f1 f2 _ (Kd.C_below HC3.out (below_alloc (Below.refl _ _) _)) HCC.out HFIT.out).mono ?_
  rintro e w4 ⟨rfl, hB4⟩
  have HX4 := Aside0.mk (blk_below (heap_alloc_new w3 (.cells #[.int .i64 f0, .int .i64 f1] 60)) hB4)
  have HH4 := Aside0.mk ((HH3.out.alloc (.cells #[.int .i64 f0, .int .i64 f1] 60)).below hB4)
  have HC4 := Aside0.mk (Kd.C_below (Kd.C_below HC3.out (below_alloc (Below.refl _ _) (.cells #[.int .i64 f0, .int .i64 f1] 60))) hB4)
  have HB4 := Aside0.mk (below_then (below_alloc HB3.out (.cells #[.int .i64 f0, .int .i64 f1] 60)) (by have := HB3.out.size; simp; omega) hB4)
  clear hB4 HH3 HC3 HB3 HFIT
  go_wp2_with fail
  have HH5 := Aside0.mk (HH4.out.alloc (.cells #[.int .i64 f0, .int .i64 f1] 64))
  have HC5 := Aside0.mk (Kd.C_below HC4.out (below_alloc (Below.refl _ _) (.cells #[.int .i64 f0, .int .i64 f1] 64)))
  have HX5 := Aside0.mk (blk_below HX4.out (below_alloc (Below.refl _ _) (.cells #[.int .i64 f0, .int .i64 f1] 64)))
  have HY5 := Aside0.mk (heap_alloc_new w4 (.cells #[.int .i64 f0, .int .i64 f1] 64))
  have HB5 := Aside0.mk (below_alloc HB4.out (.cells #[.int .i64 f0, .int .i64 f1] 64))
  clear HH4 HC4 HX4 HB4
  generalize w4.alloc (.cells #[.int .i64 f0, .int .i64 f1] 64) = w5 at HH5 HC5 HX5 HY5 HB5 ⊢
  generalize w4.heap.size = y at HY5 ⊢
  generalize w3.heap.size = x at HX5 ⊢
  obtain ⟨rs, rc, hrs, hrc, hrl, hfr, hsm, htt⟩ := runs_facts m (by have := HM.out; omega) K HKK.out
  have HRS := Aside0.mk hrs
  have HRL := Aside0.mk hrl
  have HFR := Aside0.mk hfr
  have HSM := Aside0.mk hsm
  have HTT := Aside0.mk htt
  clear hrs hrl hfr hsm htt hrc
  refine (freeRunsH HH5.out (by have := HM.out; omega)).mono ?_
  rintro e w6 ⟨v6, rfl, ho6, hB6⟩
  rw [HRS.out] at ho6
  obtain ⟨A6, c6, rfl, hc6, hC6⟩ := OwnR.C ho6 (by have := HRL.out; omega)
  have HC6 := Aside0.mk (Kd.C_below HC5.out hB6)
  have HR6 := Aside0.mk hC6
  have HRC6 := Aside0.mk hc6
  have HH6 := Aside0.mk (HH5.out.below hB6)
  have HX6 := Aside0.mk (blk_below HX5.out hB6)
  have HY6 := Aside0.mk (blk_below HY5.out hB6)
  have HB6 := Aside0.mk (below_then HB5.out HB5.out.size hB6)
  clear ho6 hc6 hC6 hB6 HC5 HH5 HX5 HY5 HB5
  go_wp2_with fail
  refine (cantleref11_Free.calls K A2 c2 m _ _ HC6.out HCC.out HFR.out).mono ?_
  rintro e w7 ⟨v7, rfl, hR7, hB7⟩
  obtain ⟨A7, c7, rfl, hc7, hC7⟩ := Kd.R_reads hR7
  have HH7 := Aside0.mk (HH6.out.below hB7)
  have HX7 := HX6.out
  have HC7 := Aside0.mk (Kd.C_below HC6.out hB7)
  have HX7 := blk_below HX6.out hB7
  have HY7 := blk_below HY6.out hB7
  have HB7 := Aside0.mk (below_then HB6.out HB6.out.size hB7)
  have HRR7 := Kd.C_below HR6.out hB7
  have HS7 := Aside0.mk (cantlelaw11_same.calls K A6 c6 rs A7 c7 rc true w7 HRR7 HRC6.out hC7 hc7 HSM.out)
  clear hR7 hB7 hc7 hC7 HX6 HY6 HH6 HC6 HB6 HRR7 HR6 HRC6 HFR
  go_wp2_with fail
  refine HS7.out.mono ?_
  rintro e w8 ⟨rfl, n8, rfl⟩
  have q1 := eq64 f0 f0 f1 f1
  have q2 : (f2 == f2) = true := by simp
  have q3 : (f0 == f0 && (f1 == f1)) = true := by simp
  rw [q3] at q1
  have HX8 : (w7.drewN n8).heap[x]? = some (.cells #[.int .i64 f0, .int .i64 f1] 60 (0, 0)) := HX7
  have HY8 : (w7.drewN n8).heap[y]? = some (.cells #[.int .i64 f0, .int .i64 f1] 64 (0, 0)) := HY7
  have X0 := cell2_0 HX8
  have X1 := cell2_1 HX8
  have Y0 := cell2_0 HY8
  have Y1 := cell2_1 HY8
  clear HX7 HY7 q3 HX8 HY8
  go_wp2_with fail
  refine (sameH (HH7.out.drewN n8) (by have := HM.out; omega) A2 c2 (Kd.C_below HC7.out (pw_below_drewN (Below.refl _ _) n8)) HCC.out).mono ?_
  rintro e w9 ⟨rfl, hB9⟩
  have HH9 := Aside0.mk ((HH7.out.drewN n8).below hB9)
  have HB9 := Aside0.mk (below_then (pw_below_drewN HB7.out n8) (pw_below_drewN HB7.out n8).size hB9)
  clear hB9 X0 X1 Y0 Y1 HH7 HB7 HC7 HCC HS7 q1
  go_wp2_with fail
  refine (freeRunsH HH9.out (by have := HM.out; omega)).mono ?_
  rintro e w10 ⟨v10, rfl, ho10, hB10⟩
  rw [HRS.out] at ho10
  obtain ⟨A10, c10, rfl, hc10, hC10⟩ := OwnR.C ho10 (by have := HRL.out; omega)
  have HR10 := Aside0.mk hC10
  have HRC10 := Aside0.mk hc10
  have HH10 := Aside0.mk (HH9.out.below hB10)
  have HB10 := Aside0.mk (below_then HB9.out HB9.out.size hB10)
  clear ho10 hc10 hC10 hB10 HH9 HB9
  go_wp2_with fail
  refine (run_Total.calls K A10 c10 rs _ _ HR10.out HRC10.out HTT.out).mono ?_
  rintro e w11 ⟨rfl, hB11⟩
  have HH11 := Aside0.mk (HH10.out.below hB11)
  have HB11 := Aside0.mk (below_then HB10.out HB10.out.size hB11)
  clear hB11 HH10 HB10 HR10 HRC10
  go_wp2_with fail
  refine (freeH HH11.out (by have := HM.out; omega)).mono ?_
  rintro e w12 ⟨rfl, n12, rfl⟩
  have q5 : (((m.length : Int) - (m.count true : Nat)) == ((m.length : Int) - (m.count true : Nat))) = true := by simp
  go_wp2_with fail
  go_ret
  exact ⟨by simp, pw_below_drewN HB11.out n12⟩
theorem free_all (W : World) (n k : Int) (A : Option Addr) (c : Nat) (l : List Int) (hn : 0 ≤ n ∧ n < 65536) (hk : -9223372036854775808 ≤ k ∧ k ≤ 9223372036854775807) (hC : Kd.C (Kd.int .u16) W A l.length l) (hr : ∀ x ∈ l, 0 ≤ x ∧ x < 65536) :
    Calls Try.prog 8 #[.int .u16 n, .slice A l.length c, .int .i64 k] W fun e w' => e = .returned (.bool true) ∧ Below W.heap.size W w' := by
  by_cases hl : l.length ≤ 200
  · exact free_short W n k A c l hl hn hk hC hr
  · exact free_long W n k A c l (by omega)
end Go.Proofs.Ytcknljndogbbhaa.Rn
