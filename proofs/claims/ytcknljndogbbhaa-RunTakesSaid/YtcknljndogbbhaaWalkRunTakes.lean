/- RunTakes: the walk through the law function: for every number and every two lists it returns true. Conditions: as each lemma says. -/
import Derived.Test.YtcknljndogbbhaaRnT
namespace Go.Proofs.Ytcknljndogbbhaa.Rn
open Go.RowKit Go.Proofs.Ytcknljndogbbhaa Go.Proofs.Ytcknljndogbbhaa.Bm Go.Proofs.Ytcknljndogbbhaa.PAll Go.Proofs.YtcknljndogbbhaaW.PrintWords Go.Proofs.YtcknljndogbbhaaW.PrintLast Go.Proofs.YtcknljndogbbhaaW.PrintMore
attribute [local go_sem] max2_int min2_int max_two min_two
set_option linter.unusedVariables false
theorem takes_long (W : World) (n : Int) (A : Option Addr) (c : Nat) (l : List Int) (A2 : Option Addr) (c2 : Nat) (l2 : List Int) (hl : 200 < l.length) :
    Calls Try.prog 9 #[.int .u16 n, .slice A l.length c, .slice A2 l2.length c2] W fun e w' => e = .returned (.bool true) ∧ Below W.heap.size W w' := by
  have d : decide (200 < (l.length : Int)) = true := decide_eq_true (by omega)
  clear hl
  go_enter Try.func9, Try.ntmps9
  go_wp2_with fail
  refine (lives11 _).mono ?_
  rintro e w1 ⟨rfl, hb⟩
  have HB1 := Aside0.mk hb
  clear hb
  go_wp2_with fail
  refine (lives11 _).mono ?_
  rintro e w2 ⟨rfl, hb⟩
  have HB2 := Aside0.mk (below_then HB1.out HB1.out.size hb)
  clear hb
  go_wp2_with fail
  go_ret
  exact ⟨rfl, HB2.out⟩
theorem takes_long2 (W : World) (n : Int) (A : Option Addr) (c : Nat) (l : List Int) (A2 : Option Addr) (c2 : Nat) (l2 : List Int) (hl : l.length ≤ 200) (hl2 : 30 < l2.length) :
    Calls Try.prog 9 #[.int .u16 n, .slice A l.length c, .slice A2 l2.length c2] W fun e w' => e = .returned (.bool true) ∧ Below W.heap.size W w' := by
  have d : decide (200 < (l.length : Int)) = false := decide_eq_false (by omega)
  have d2 : decide (30 < (l2.length : Int)) = true := decide_eq_true (by omega)
  clear hl hl2
  go_enter Try.func9, Try.ntmps9
  go_wp2_with fail
  refine (lives11 _).mono ?_
  rintro e w1 ⟨rfl, hb⟩
  have HB1 := Aside0.mk hb
  clear hb
  go_wp2_with fail
  refine (lives11 _).mono ?_
  rintro e w2 ⟨rfl, hb⟩
  have HB2 := Aside0.mk (below_then HB1.out HB1.out.size hb)
  clear hb
  go_wp2_with fail
  go_ret
  exact ⟨rfl, HB2.out⟩
set_option maxHeartbeats 8000000 in
theorem takes_short (W : World) (n : Int) (A : Option Addr) (c : Nat) (l : List Int) (Al : Option Addr) (cl : Nat) (ls : List Int) (hl : l.length ≤ 200) (hl2 : ls.length ≤ 30) (hn : 0 ≤ n ∧ n < 65536) (hC : Kd.C (Kd.int .u16) W A l.length l) (hr : ∀ x ∈ l, 0 ≤ x ∧ x < 65536)
    (hCl : Kd.C (Kd.int .i64) W Al ls.length ls) (hrl : ∀ x ∈ ls, -9223372036854775808 ≤ x ∧ x ≤ 9223372036854775807) :
    Calls Try.prog 9 #[.int .u16 n, .slice A l.length c, .slice Al ls.length cl] W fun e w' => e = .returned (.bool true) ∧ Below W.heap.size W w' := by
  have d : decide (200 < (l.length : Int)) = false := decide_eq_false (by omega)
  have d2 : decide (30 < (ls.length : Int)) = false := decide_eq_false (by omega)
  have HL := Aside0.mk hl
  have HL2 := Aside0.mk hl2
  have HC := Aside0.mk hC
  have HR := Aside0.mk hr
  have HCL := Aside0.mk hCl
  have HRL := Aside0.mk hrl
  have HNN := Aside0.mk hn
  have hn3 : (n % 200).toNat < 200 := by omega
  generalize hN : 1 + (n % 200).toNat = N at hn3
  have HN := Aside0.mk (show N ≤ 200 by omega)
  have HNe := Aside0.mk hN
  obtain ⟨K, hK⟩ : ∃ K : Nat, 70000 < K := ⟨70001, by omega⟩
  have HKK := Aside0.mk hK
  clear hl hl2 hC hr hn hn3 hN hCl hrl hK
  go_enter Try.func9, Try.ntmps9
  go_wp2_with fail
  refine (lives11 _).mono ?_
  rintro e w1 ⟨rfl, hb⟩
  have HB1 := Aside0.mk hb
  have HC1 := Aside0.mk (Kd.C_below HC.out hb)
  clear hb HC
  go_wp2_with fail
  refine (drawH _ n HNN.out A c l HL.out HC1.out HR.out).mono ?_
  rintro e w2 ⟨g, b, v, m, rfl, hH, hlen, hR, hg, hb, hB⟩
  rw [HNe.out] at hlen
  have HM := Aside0.mk (show m.length ≤ 200 by rw [hlen]; exact HN.out)
  have HH2 := Aside0.mk hH
  have hsz := HB1.out.size
  have HB2 := Aside0.mk (below_then HB1.out hsz hB)
  have HG := Aside0.mk (show W.heap.size ≤ g ∧ W.heap.size ≤ b by omega)
  have HR2 := Aside0.mk (Kd.R_lower hR hsz)
  clear hH hlen hR hg hb hB HC1 HL HR HB1 HN HNe HNN hsz
  go_wp2_with fail
  go_loopw [8, 37] (fun v8 v37 wr => ∃ (i : Nat) (mw : List Bool), i ≤ ls.length ∧ v37 = .int .i64 i ∧ Aside0 (mw.length ≤ 200) ∧ Aside0 (Holds wr g b mw) ∧ Aside0 (Kd.R Kd.bool 4 wr W.heap.size (fun k => k ≠ g ∧ k ≠ b) v8 mw) ∧ Aside0 (Below W.heap.size W wr)) (fun _ v37 _ => ls.length - (intOf v37).toNat)
  case atStart => exact ⟨0, m, Nat.zero_le _, rfl, HM, HH2, HR2, HB2⟩
  case round =>
    obtain ⟨i, mw, hi, rfl, HMr, HHr, HRr, HBr⟩ := hrel
    have hl2 := HL2.out
    have HCr := Aside0.mk (Kd.C_below HCL.out HBr.out)
    by_cases hlt : i < ls.length
    · obtain ⟨ad, eA, hcx⟩ := C_at HCr.out i hlt
      subst eA
      have hx := HRL.out ls[i] (List.getElem_mem _)
      rw [show rd ls (i : Int) = ls[i] from by unfold rd; simp [List.getD_eq_getElem?_getD, hlt]] at hcx
      generalize ls[i] = x at hx hcx
      have HX := Aside0.mk hx
      clear hx
      by_cases ht : takeOk mw x = true
      · obtain ⟨F, hF⟩ := take_f_yes mw (by have := HMr.out; omega) x ht
        have HTF := Aside0.mk (hF F (Nat.le_refl _))
        have HTK := Aside0.mk (fun (w : World) (h : Holds w g b mw) => take_own h (by have := HMr.out; omega) x ht trivial)
        have hlaw := (pick_law mw (by have := HMr.out; omega) x ht).2
        have hx0 : 0 ≤ x ∧ x ≤ 65534 := by
          unfold takeOk at ht
          simp only [Bool.and_eq_true, decide_eq_true_eq] at ht
          have := HMr.out
          omega
        have hpb := pick_bd mw (by have := HMr.out; omega) x hx0
        have hpl := pick_length mw x
        have hml := takeM_length (pickOf mw x) mw
        have hsm := rsame_f (pickOf mw x) (by have := HMr.out; omega) K (by have := HMr.out; have := HKK.out; omega)
        have htt := total_f (pickOf mw x) (by have := HMr.out; omega) (fun r hr => by have := hpb r hr; omega) K (by have := HMr.out; have := HKK.out; omega)
        rw [hlaw] at htt
        clear hF ht hlaw hx0 hpb
        generalize takeM mw (pickOf mw x) = M' at HTF HTK hml
        generalize pickOf mw x = rs at HTF HTK hpl hsm htt
        generalize rs.map conv = rc at HTF hsm
        have HML := Aside0.mk (show M'.length ≤ 200 by rw [hml]; exact HMr.out)
        have HSM := Aside0.mk hsm
        have HTT := Aside0.mk htt
        clear hml hsm htt hpl
        have dx : (x != x) = false := by simp
        go_wp2_with fail
        refine (cantleref11_Take.calls F (fun k => k ≠ g ∧ k ≠ b) _ mw x _ _ _ W _ HBr.out HRr.out HTF.out).mono ?_
        rintro e w5 ⟨v5, v6, rfl, hR5, hR6, hB5, hK5⟩
        obtain ⟨A5, c5, rfl, hc5, hC5⟩ := Kd.R_reads hR5
        obtain ⟨A6, c6, rfl, hc6, hC6⟩ := Kd.R_reads hR6
        have hlt4 := HHr.out.lt
        have hh5 : Holds w5 g b mw := by
          obtain ⟨c4, cs4, hI4⟩ := HHr.out
          exact ⟨c4, cs4, hI4.keep (hK5.2 g hlt4.1 (by simp)) (hK5.2 b hlt4.2.1 (by simp))⟩
        have HH5 := Aside0.mk hh5
        have HR5 := Aside0.mk (show Kd.R Kd.bool 4 w5 W.heap.size (fun k => k ≠ g ∧ k ≠ b) (.slice A5 M'.length c5) M' from Kd.R_mono hR5 (fun k hk => by rcases hk with h | h; exact h; omega))
        have HR6 := Aside0.mk (show Kd.R k64 64 w5 W.heap.size (fun k => k ≠ g ∧ k ≠ b) (.slice A6 rc.length c6) rc from Kd.R_mono hR6 (fun k hk => by rcases hk with h | h; exact h; omega))
        have HB5 := Aside0.mk hB5
        clear hR5 hR6 hB5 hK5 hlt4 hh5 hC5 hC6 hc5 hc6
        go_wp2_with fail
        refine (HTK.out _ HH5.out).mono ?_
        rintro e w6 ⟨A9, c9, rfl, hc9, hC9, hH9, hG9, _⟩
        have HH6 := Aside0.mk hH9
        have HR56 := Aside0.mk (Kd.R_grown HR5.out hG9 (fun k hk e => hk.2 (by cases e; rfl)))
        have hR66 := Kd.R_grown HR6.out hG9 (fun k hk e => hk.2 (by cases e; rfl))
        obtain ⟨_, hcc6, hCC6⟩ := Kd.R_reads' hR66
        have HB6 := Aside0.mk (pw_below_grown HB5.out (some b) HB5.out.size hG9 (fun k hk => by cases hk; exact HG.out.2))
        have HS6 := Aside0.mk (cantlelaw11_same.calls K A9 c9 rs A6 c6 rc true w6 hC9 hc9 hCC6 hcc6 HSM.out)
        have HC9 := Aside0.mk hC9
        have HCC9 := Aside0.mk hc9
        clear hH9 hG9 hR66 hcc6 hCC6 hC9 hc9 HH5 HR5 HR6 HB5
        go_wp2_with fail
        refine HS6.out.mono ?_
        rintro e w7 ⟨rfl, n7, rfl⟩
        have hB67 : Below w6.heap.size w6 (w6.drewN n7) := pw_below_drewN (Below.refl _ _) n7
        have HH7 := Aside0.mk (HH6.out.drewN n7)
        have HR7 := Aside0.mk (Kd.R_below HR56.out hB67)
        have HC97 := Aside0.mk (Kd.C_below HC9.out hB67)
        have HB7 := Aside0.mk (pw_below_drewN HB6.out n7)
        clear hB67
        generalize w6.drewN n7 = w7 at HH7 HR7 HC97 HB7 ⊢
        obtain ⟨_, hcc5, hCC5⟩ := Kd.R_reads' HR7.out
        have HSH := Aside0.mk (sameH HH7.out (by have := HML.out; omega) A5 c5 hCC5 hcc5)
        clear hcc5 hCC5 HS6 HH6 HR56 HC9 HB6
        go_wp2_with fail
        refine HSH.out.mono ?_
        rintro e w8 ⟨rfl, hB8⟩
        have HH8 := Aside0.mk (HH7.out.below hB8)
        have HR8 := Aside0.mk (Kd.R_below HR7.out hB8)
        have HC98 := Aside0.mk (Kd.C_below HC97.out hB8)
        have HB8 := Aside0.mk (below_then HB7.out HB7.out.size hB8)
        clear hB8 HSH HH7 HR7 HC97 HB7
        go_wp2_with fail
        refine (run_Total.calls K A9 c9 rs _ _ HC98.out HCC9.out HTT.out).mono ?_
        rintro e w10 ⟨rfl, hB10⟩
        have HH10 := Aside0.mk (HH8.out.below hB10)
        have HR10 := Aside0.mk (Kd.R_below HR8.out hB10)
        have HB10 := Aside0.mk (below_then HB8.out HB8.out.size hB10)
        clear hB10 HH8 HR8 HC98 HB8
        go_wp2_with fail
        go_roundw
        case rel => exact ⟨i + 1, M', by omega, by go_num, HML, HH10, HR10, HB10⟩
        case measure => simp [intOf]; omega
      · have ht' : takeOk mw x = false := by simpa using ht
        obtain ⟨F, hF⟩ := take_f_no mw (by have := HMr.out; omega) x ht'
        have HTF := Aside0.mk (hF F (Nat.le_refl _))
        have HTK := Aside0.mk (fun (w : World) (h : Holds w g b mw) => take_no h (by have := HMr.out; omega) x HX.out ht')
        have HSM := Aside0.mk (rsame_f [] (by simp) K (by have := HKK.out; simp; omega))
        clear hF ht ht'
        go_wp2_with fail
        refine (cantleref11_Take.calls F (fun k => k ≠ g ∧ k ≠ b) _ mw x _ _ _ W _ HBr.out HRr.out HTF.out).mono ?_
        rintro e w5 ⟨v5, v6, rfl, hR5, hR6, hB5, hK5⟩
        obtain ⟨A5, c5, rfl, hc5, hC5⟩ := Kd.R_reads hR5
        obtain ⟨A6, c6, rfl, hc6, hC6⟩ := Kd.R_reads hR6
        have hlt4 := HHr.out.lt
        have hh5 : Holds w5 g b mw := by
          obtain ⟨c4, cs4, hI4⟩ := HHr.out
          exact ⟨c4, cs4, hI4.keep (hK5.2 g hlt4.1 (by simp)) (hK5.2 b hlt4.2.1 (by simp))⟩
        have HH5 := Aside0.mk hh5
        have HR5 := Aside0.mk (show Kd.R Kd.bool 4 w5 W.heap.size (fun k => k ≠ g ∧ k ≠ b) (.slice A5 mw.length c5) mw from Kd.R_mono hR5 (fun k hk => by rcases hk with h | h; exact h; omega))
        have HC65 := Aside0.mk hC6
        have HCC6 := Aside0.mk hc6
        have HB5 := Aside0.mk hB5
        clear hR5 hR6 hB5 hK5 hlt4 hh5 hC5 hC6 hc5 hc6
        go_wp2_with fail
        refine (HTK.out _ HH5.out).mono ?_
        rintro e w6 ⟨rfl, n6, rfl⟩
        have hB56 : Below w5.heap.size w5 (w5.drewN n6) := pw_below_drewN (Below.refl _ _) n6
        have HH6 := Aside0.mk (HH5.out.drewN n6)
        have HR6 := Aside0.mk (Kd.R_below HR5.out hB56)
        have HC66 := Aside0.mk (Kd.C_below HC65.out hB56)
        have HB6 := Aside0.mk (pw_below_drewN HB5.out n6)
        clear hB56
        generalize w5.drewN n6 = w6 at HH6 HR6 HC66 HB6 ⊢
        have HS6 := Aside0.mk (cantlelaw11_same.calls K none 0 [] A6 c6 [] true w6 (Kd.C_nil _ _) (Nat.le_refl _) HC66.out HCC6.out HSM.out)
        clear HH5 HR5 HC65 HB5
        go_wp2_with fail
        refine HS6.out.mono ?_
        rintro e w7 ⟨rfl, n7, rfl⟩
        have hB67 : Below w6.heap.size w6 (w6.drewN n7) := pw_below_drewN (Below.refl _ _) n7
        have HH7 := Aside0.mk (HH6.out.drewN n7)
        have HR7 := Aside0.mk (Kd.R_below HR6.out hB67)
        have HB7 := Aside0.mk (pw_below_drewN HB6.out n7)
        clear hB67
        generalize w6.drewN n7 = w7 at HH7 HR7 HB7 ⊢
        obtain ⟨_, hcc5, hCC5⟩ := Kd.R_reads' HR7.out
        have HSH := Aside0.mk (sameH HH7.out (by have := HMr.out; omega) A5 c5 hCC5 hcc5)
        clear hcc5 hCC5 HS6 HH6 HR6 HC66 HB6
        go_wp2_with fail
        refine HSH.out.mono ?_
        rintro e w8 ⟨rfl, hB8⟩
        have HH8 := Aside0.mk (HH7.out.below hB8)
        have HR8 := Aside0.mk (Kd.R_below HR7.out hB8)
        have HB8 := Aside0.mk (below_then HB7.out HB7.out.size hB8)
        clear hB8 HSH HH7 HR7 HB7
        go_wp2_with fail
        go_roundw
        case rel => exact ⟨i + 1, mw, by omega, by go_num, HMr, HH8, HR8, HB8⟩
        case measure => simp [intOf]; omega
    · obtain rfl : i = ls.length := by omega
      go_wp2_with fail
      go_ret
      exact ⟨rfl, HBr.out⟩
theorem takes_all (W : World) (n : Int) (A : Option Addr) (c : Nat) (l : List Int) (Al : Option Addr) (cl : Nat) (ls : List Int) (hn : 0 ≤ n ∧ n < 65536) (hC : Kd.C (Kd.int .u16) W A l.length l) (hr : ∀ x ∈ l, 0 ≤ x ∧ x < 65536)
    (hCl : Kd.C (Kd.int .i64) W Al ls.length ls) (hrl : ∀ x ∈ ls, -9223372036854775808 ≤ x ∧ x ≤ 9223372036854775807) :
    Calls Try.prog 9 #[.int .u16 n, .slice A l.length c, .slice Al ls.length cl] W fun e w' => e = .returned (.bool true) ∧ Below W.heap.size W w' := by
  by_cases hl : l.length ≤ 200
  · by_cases hl2 : ls.length ≤ 30
    · exact takes_short W n A c l Al cl ls hl hl2 hn hC hr hCl hrl
    · exact takes_long2 W n A c l Al cl ls hl (by omega)
  · exact takes_long W n A c l Al cl ls (by omega)
end Go.Proofs.Ytcknljndogbbhaa.Rn
