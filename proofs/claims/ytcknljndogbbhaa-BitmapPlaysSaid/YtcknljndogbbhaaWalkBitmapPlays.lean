/- BitmapPlays: the walk through the law function: for every number and every list of acts it returns true. Conditions: as each lemma says. -/
import Derived.Test.YtcknljndogbbhaaBmQ
namespace Go.Proofs.Ytcknljndogbbhaa.Bm
open Go.RowKit Go.Proofs.Ytcknljndogbbhaa Go.Proofs.Ytcknljndogbbhaa.Rn Go.Proofs.Ytcknljndogbbhaa.PAll Go.Proofs.YtcknljndogbbhaaW.PrintWords Go.Proofs.YtcknljndogbbhaaW.PrintLast Go.Proofs.YtcknljndogbbhaaW.PrintMore
attribute [local go_sem] max2_int min2_int max_two min_two
set_option linter.unusedVariables false
theorem argLt {k : IntKind} {W : World} {A : Option Addr} {l : List Int} (h : Kd.C (Kd.int k) W A l.length l) : ∀ ad, A = some ad → 0 < l.length → ad.block < W.heap.size := by
  intro ad e hl
  obtain ⟨ad', e', hc⟩ := C_at h 0 hl
  cases e.symm.trans e'
  have := World.block_lt_of_cell? W (ad.add 0) hc
  simpa [Addr.add] using this
theorem cell4 {W : World} {g : Nat} {a b c d : Value} {t : TypeId} (h : W.heap[g]? = some (.cells #[a, b, c, d] t (0, 0))) : W.cell? ⟨g, 0, none⟩ = some a ∧ W.cell? ⟨g, 1, none⟩ = some b ∧ W.cell? ⟨g, 2, none⟩ = some c ∧ W.cell? ⟨g, 3, none⟩ = some d := by
  refine ⟨?_, ?_, ?_, ?_⟩ <;> simp [World.cell?, h]
/-- What an act's number leaves of the truths. -/
theorem act_turns (is : Bool) : (!is) = (!is) := rfl
set_option maxRecDepth 100000 in
theorem plays_few (W : World) (n : Int) (A : Option Addr) (c : Nat) (l : List S48) (hC : Kd.C k48 W A l.length l) (hc : l.length ≤ c) (K : Nat) (hf : cantlelaw10_few.f K l = some false) :
    Calls Try.prog 5 #[.int .i64 n, .slice A l.length c] W fun e w' => e = .returned (.bool true) ∧ Below W.heap.size W w' := by
  have HC := Aside0.mk hC
  clear hC
  go_enter Try.func5, Try.ntmps5
  go_wp2_with fail
  refine (lives_calls _).mono ?_
  rintro e w1 ⟨rfl, hb⟩
  have HB1 := Aside0.mk hb
  have HC1 := Aside0.mk (Kd.C_below HC.out hb)
  clear hb
  go_wp2_with fail
  refine (cantlelaw10_few.calls K A c l false _ HC1.out hc hf).mono ?_
  rintro e w2 ⟨rfl, hb⟩
  have HB2 := Aside0.mk (below_then HB1.out HB1.out.size hb)
  clear hb
  go_wp2_with fail
  refine (lives_calls _).mono ?_
  rintro e w3 ⟨rfl, hb⟩
  have HB3 := Aside0.mk (below_then HB2.out HB2.out.size hb)
  go_wp2_with fail
  go_ret
  exact ⟨rfl, HB3.out⟩
set_option maxRecDepth 100000 in
theorem plays_big (W : World) (n : Int) (A : Option Addr) (c : Nat) (l : List S48) (hC : Kd.C k48 W A l.length l) (hc : l.length ≤ c) (K : Nat) (hf : cantlelaw10_few.f K l = some true) (hn : 300 < n) :
    Calls Try.prog 5 #[.int .i64 n, .slice A l.length c] W fun e w' => e = .returned (.bool true) ∧ Below W.heap.size W w' := by
  have HC := Aside0.mk hC
  have d : decide (300 < n) = true := decide_eq_true hn
  clear hC hn
  go_enter Try.func5, Try.ntmps5
  go_wp2_with fail
  refine (lives_calls _).mono ?_
  rintro e w1 ⟨rfl, hb⟩
  have HB1 := Aside0.mk hb
  have HC1 := Aside0.mk (Kd.C_below HC.out hb)
  clear hb
  go_wp2_with fail
  refine (cantlelaw10_few.calls K A c l true _ HC1.out hc hf).mono ?_
  rintro e w2 ⟨rfl, hb⟩
  have HB2 := Aside0.mk (below_then HB1.out HB1.out.size hb)
  clear hb
  go_wp2_with fail
  refine (lives_calls _).mono ?_
  rintro e w3 ⟨rfl, hb⟩
  have HB3 := Aside0.mk (below_then HB2.out HB2.out.size hb)
  go_wp2_with fail
  go_ret
  exact ⟨rfl, HB3.out⟩
set_option maxRecDepth 100000 in
set_option maxHeartbeats 8000000 in
theorem plays_main (W : World) (n : Int) (A : Option Addr) (c : Nat) (l : List S48) (hC : Kd.C k48 W A l.length l) (hc : l.length ≤ c) (K : Nat) (hf : cantlelaw10_few.f K l = some true) (hn : n ≤ 300) (hl : l.length ≤ 40) (hl3 : ∀ x ∈ l, x.f3.length ≤ 40)
    (hr : ∀ x ∈ l, (0 ≤ x.f0 ∧ x.f0 < 256) ∧ (-9223372036854775808 ≤ x.f1 ∧ x.f1 ≤ 9223372036854775807) ∧ (-9223372036854775808 ≤ x.f2 ∧ x.f2 ≤ 9223372036854775807) ∧ ∀ y ∈ x.f3, -9223372036854775808 ≤ y ∧ y ≤ 9223372036854775807) :
    Calls Try.prog 5 #[.int .i64 n, .slice A l.length c] W fun e w' => e = .returned (.bool true) ∧ Below W.heap.size W w' := by
  have HC := Aside0.mk hC
  have HL := Aside0.mk hl
  have HL3 := Aside0.mk hl3
  have HR := Aside0.mk hr
  have HCL := Aside0.mk (show clampN n ≤ 300 by unfold clampN; (repeat' split) <;> omega)
  have d : decide (300 < n) = false := decide_eq_false (by omega)
  clear hC hn hl hl3 hr
  go_enter Try.func5, Try.ntmps5
  go_wp2_with fail
  refine (lives_calls _).mono ?_
  rintro e w1 ⟨rfl, hb⟩
  have HB1 := Aside0.mk hb
  have HC1 := Aside0.mk (Kd.C_below HC.out hb)
  clear hb
  go_wp2_with fail
  refine (cantlelaw10_few.calls K A c l true _ HC1.out hc hf).mono ?_
  rintro e w2 ⟨rfl, hb⟩
  have HB2 := Aside0.mk (below_then HB1.out HB1.out.size hb)
  clear hb HC1
  go_wp2_with fail
  refine (newH _ _).mono ?_
  rintro e w3 ⟨g, b, rfl, hH, hg, hb, hB⟩
  have HH3 := Aside0.mk hH
  have HB3 := Aside0.mk (below_then HB2.out HB2.out.size hB)
  have HG := Aside0.mk (show W.heap.size ≤ g ∧ W.heap.size ≤ b by have := HB2.out.size; omega)
  clear hH hg hb hB HB1 HB2
  go_wp2_with fail
  refine (cantleref10_New.calls n _ _ (new_f _)).mono ?_
  rintro e w4 ⟨v, rfl, hr4, hB4⟩
  have HH4 := Aside0.mk (HH3.out.below hB4)
  have HB4 := Aside0.mk (below_then HB3.out HB3.out.size hB4)
  have HR4 := Aside0.mk (show Kd.R Kd.bool 4 w4 W.heap.size (fun k => k ≠ g ∧ k ≠ b) v (List.replicate (clampN n) false) from by
    have h3 := Kd.R_bound hr4
    refine Kd.R_lower (Kd.R_mono h3 (fun k hk => ?_)) HB3.out.size
    have := HH3.out.lt
    omega)
  clear hr4 hB4 HB3 HH3
  go_wp2_with fail
  go_loopw [6, 36] (fun v6 v36 wr => ∃ (i : Nat) (mw : List Bool), i ≤ l.length ∧ v36 = .int .i64 i ∧ Aside0 (mw.length ≤ 300) ∧ Aside0 (Holds wr g b mw) ∧ Aside0 (Kd.R Kd.bool 4 wr W.heap.size (fun k => k ≠ g ∧ k ≠ b) v6 mw) ∧ Aside0 (Below W.heap.size W wr)) (fun _ v36 _ => l.length - (intOf v36).toNat)
  case atStart => exact ⟨0, _, Nat.zero_le _, rfl, ⟨by simp; exact HCL.out⟩, HH4, HR4, HB4⟩
  case round =>
    obtain ⟨i, mw, hi, rfl, HMr, HHr, HRr, HBr⟩ := hrel
    have hl := HL.out
    by_cases hlt : i < l.length
    · have HSZ := Aside0.mk HBr.out.size
      obtain ⟨ad, A3, c3, eA, q0, q1, q2, q3, hc3, hC3⟩ := at_T48 HC.out (i : Int) (by omega) (by omega)
      subst eA
      have e48 : rd_T48 l (i : Int) = l[i] := by unfold rd_T48; simp [List.getD_eq_getElem?_getD, hlt]
      have hx := HR.out l[i] (List.getElem_mem _)
      have hx3 := HL3.out l[i] (List.getElem_mem _)
      rw [e48, Int.toNat_natCast] at q0 q1 q2 q3
      rw [e48] at hc3 hC3
      have hlow := argLt hC3
      have hC3r := Kd.C_below hC3 HBr.out
      replace q0 := (HBr.out.cell (World.block_lt_of_cell? W _ q0)).trans q0
      replace q1 := (HBr.out.cell (World.block_lt_of_cell? W _ q1)).trans q1
      replace q2 := (HBr.out.cell (World.block_lt_of_cell? W _ q2)).trans q2
      replace q3 := (HBr.out.cell (World.block_lt_of_cell? W _ q3)).trans q3
      generalize l[i] = x at q0 q1 q2 q3 hc3 hC3 hC3r hx hx3 hlow
      obtain ⟨op, fr, ct, bl⟩ := x
      dsimp only at q0 q1 q2 q3 hc3 hC3 hC3r hx hx3 hlow
      obtain ⟨o, ho⟩ := Int.eq_ofNat_of_zero_le (show 0 ≤ op % 4 by omega)
      have ho4 : o < 4 := by omega
      have et : Int.tmod op 4 = (o : Int) := by rw [Int.tmod_eq_emod_of_nonneg hx.1.1, ho]
      have HX := Aside0.mk hx
      have HX3 := Aside0.mk hx3
      have HC3 := Aside0.mk hC3
      have HLOW := Aside0.mk hlow
      clear hx hx3 hC3 hC3r hlow ho e48
      have hcases : o = 0 ∨ o = 1 ∨ o = 2 ∨ o = 3 := by omega
      have HXB := Aside0.mk (heap_alloc_new wr (.cells #[.int .u8 op, .int .i64 fr, .int .i64 ct, .slice A3 bl.length c3] 48))
      have HHx := Aside0.mk (HHr.out.alloc (.cells #[.int .u8 op, .int .i64 fr, .int .i64 ct, .slice A3 bl.length c3] 48))
      have HRx := Aside0.mk (show Kd.R Kd.bool 4 (wr.alloc (.cells #[.int .u8 op, .int .i64 fr, .int .i64 ct, .slice A3 bl.length c3] 48)) W.heap.size (fun k => k ≠ g ∧ k ≠ b ∧ k ≠ wr.heap.size) u6 mw from
        Kd.R_below (Kd.R_mono (Kd.R_bound HRr.out) (fun k hk => ⟨hk.1.1, hk.1.2, by omega⟩)) (below_alloc (Below.refl _ _) _))
      have HBx := Aside0.mk (below_alloc HBr.out (.cells #[.int .u8 op, .int .i64 fr, .int .i64 ct, .slice A3 bl.length c3] 48))
      have HLT := Aside0.mk (show g < wr.heap.size ∧ b < wr.heap.size from ⟨HHr.out.lt.1, HHr.out.lt.2.1⟩)
      clear HHr HRr HBr
      rcases hcases with rfl | rfl | rfl | rfl
      · have HPZ := Aside0.mk (Int.le_refl 0)
        go_wp2_with fail
        generalize wr.alloc (.cells #[.int .u8 op, .int .i64 fr, .int .i64 ct, .slice A3 bl.length c3] 48) = wx at HXB HHx HRx HBx ⊢
        generalize wr.heap.size = xb at HXB HRx HLT ⊢
        clear q0 q1 q2 q3
        go_loopw [6, 9, 66] (fun v6 v9 v66 wi => ∃ j : Nat, j ≤ bl.length ∧ v66 = .int .i64 j ∧ v9 = .int .i64 ((turnB false mw (bl.take j)).2 : Nat) ∧ Aside0 (wi.heap[xb]? = some (.cells #[.int .u8 op, .int .i64 fr, .int .i64 ct, .slice A3 bl.length c3] 48 (0, 0))) ∧ Aside0 (Holds wi g b mw) ∧ Aside0 (Kd.R Kd.bool 4 wi W.heap.size (fun k => k ≠ g ∧ k ≠ b ∧ k ≠ xb) v6 (turnB false mw (bl.take j)).1) ∧ Aside0 (Below W.heap.size W wi)) (fun _ _ v66 _ => bl.length - (intOf v66).toNat)
        case atStart => exact ⟨0, Nat.zero_le _, rfl, rfl, HXB, HHx, HRx, HBx⟩
        case round =>
          obtain ⟨j, hj, rfl, rfl, HXi, HHi, HRi, HBi⟩ := hrel
          have hb40 := HX3.out
          obtain ⟨X0, X1, X2, X3⟩ := cell4 HXi.out
          by_cases hjl : j < bl.length
          · obtain ⟨ad3, eA3, hcx⟩ := C_at (Kd.C_below HC3.out HBi.out) j hjl
            subst eA3
            rw [show rd bl (j : Int) = bl[j] from by unfold rd; simp [List.getD_eq_getElem?_getD, hjl]] at hcx
            have ht : turnB false mw (bl.take (j + 1)) = turnB1 false (turnB false mw (bl.take j)) bl[j] := by rw [List.take_succ_eq_append_getElem hjl, turnB_snoc]
            have hle := turnB_le false mw (bl.take j)
            have hlj : (bl.take j).length ≤ 40 := by simp; omega
            generalize bl[j] = y at hcx ht
            have hlen := turnB_length false mw (bl.take j)
            rw [show turnB1 false (turnB false mw (bl.take j)) y = _ from turnB1_add false (turnB false mw (bl.take j)).1 (turnB false mw (bl.take j)).2 y] at ht
            generalize (turnB false mw (bl.take j)).1 = mj at HRi ht hlen
            generalize (turnB false mw (bl.take j)).2 = kj at ht hle ⊢
            have hk40 : kj ≤ 40 := by omega
            have HT := Aside0.mk ht
            have HML := Aside0.mk (show mj.length ≤ 65534 by have := HMr.out; omega)
            clear ht hle hlj hlen
            go_wp2_with fail
            refine (cantleref10_Turn.calls (fun k => k ≠ g ∧ k ≠ b ∧ k ≠ xb) _ mj y true _ _ W _ HBi.out HRi.out (turn_f mj HML.out y true)).mono ?_
            rintro e w5 ⟨v5, rfl, hR5, hB5, hK5⟩
            have hlt5 := HHi.out.lt
            have hXl := blk_lt HXi.out
            have hh5 : Holds w5 g b mw := by
              obtain ⟨c4, cs4, hI4⟩ := HHi.out
              exact ⟨c4, cs4, hI4.keep (hK5.2 g hlt5.1 (by simp)) (hK5.2 b hlt5.2.1 (by simp))⟩
            have HX5 := Aside0.mk ((hK5.2 xb hXl (by simp)).trans HXi.out)
            have HH5 := Aside0.mk hh5
            have HR5 := Aside0.mk (show Kd.R Kd.bool 4 w5 W.heap.size (fun k => k ≠ g ∧ k ≠ b ∧ k ≠ xb) v5 (turnB1 false (mj, 0) y).1 from Kd.R_mono hR5 (fun k hk => by rcases hk with h | h; exact h; omega))
            have HB5 := Aside0.mk hB5
            have h2 := turnB1_le false mj y
            have hT := HT.out
            clear hR5 hB5 hK5 hh5 hlt5 hXl HXi HHi HRi HBi X0 X1 X2 X3
            rcases h2 with h2 | h2
            · rw [show decide ((turnB1 (!true) (mj, 0) y).2 = 1) = false from by rw [show turnB1 (!true) (mj, 0) y = turnB1 false (mj, 0) y from rfl, h2]; rfl]
              rw [h2] at hT
              have HT2 := Aside0.mk hT
              clear h2 hT HT
              go_wp2_with fail
              go_roundw
              case rel => exact ⟨j + 1, by omega, by go_num, by rw [HT2.out]; go_num, HX5, HH5, by rw [HT2.out]; exact HR5, HB5⟩
              case measure => simp [intOf]; omega
            · rw [show decide ((turnB1 (!true) (mj, 0) y).2 = 1) = true from by rw [show turnB1 (!true) (mj, 0) y = turnB1 false (mj, 0) y from rfl, h2]; rfl]
              rw [h2] at hT
              have HT2 := Aside0.mk hT
              clear h2 hT HT
              go_wp2_with fail
              go_roundw
              case rel => exact ⟨j + 1, by omega, by go_num, by rw [HT2.out]; go_num, HX5, HH5, by rw [HT2.out]; exact HR5, HB5⟩
              case measure => simp [intOf]; omega
          · obtain rfl : j = bl.length := by omega
            rw [List.take_length] at HRi ⊢
            have hle := turnB_le false mw bl
            have hlen := turnB_length false mw bl
            have HPUT := Aside0.mk (fun (w : World) (h : Holds w g b mw) (hC : Kd.C (Kd.int .i64) w A3 bl.length bl) => putH h (by have := HMr.out; omega) A3 c3 bl hC (fun ad e hl => by have := HLOW.out ad e hl; have := HG.out; omega) (by omega) HX.out.2.2.2)
            generalize (turnB false mw bl).1 = mz at HRi hlen HPUT
            generalize (turnB false mw bl).2 = kz at hle HPUT ⊢
            have dk : (((kz : Nat) : Int) != ((kz : Nat) : Int)) = false := by simp
            have HMz := Aside0.mk (show mz.length ≤ 65534 by have := HMr.out; omega)
            have HMz2 := Aside0.mk (show mz.length ≤ 300 by have := HMr.out; omega)
            clear hle hlen
            go_wp2_with fail
            refine (HPUT.out _ HHi.out (Kd.C_below HC3.out HBi.out)).mono ?_
            rintro e w6 ⟨rfl, hH6, hG6, hS6⟩
            have HHz := Aside0.mk hH6
            have HRz := Aside0.mk (show Kd.R Kd.bool 4 w6 W.heap.size (fun k => k ≠ g ∧ k ≠ b) u6 mz from Kd.R_mono (Kd.R_grown HRi.out hG6 (fun k hk e => hk.2.1 (by cases e; rfl))) (fun k hk => ⟨hk.1, hk.2.1⟩))
            have HBz := Aside0.mk (pw_below_grown HBi.out (some b) HBi.out.size hG6 (fun k hk => by cases hk; exact HG.out.2))
            clear hH6 hG6 hS6 HHi HRi HBi HXi X0 X1 X2 X3
            obtain ⟨A9, c9, rfl, hc9, hC9⟩ := Kd.R_reads HRz.out
            have HSH := Aside0.mk (sameH HHz.out HMz.out A9 c9 hC9 hc9)
            have HRz9 := HRz
            clear HRz hc9 hC9
            go_wp2_with fail
            refine HSH.out.mono ?_
            rintro e w9 ⟨rfl, hB9⟩
            have HH9 := Aside0.mk (HHz.out.below hB9)
            have HR9 := Aside0.mk (Kd.R_below HRz9.out hB9)
            have HB9 := Aside0.mk (below_then HBz.out HBz.out.size hB9)
            go_wp2_with fail
            go_roundw
            case rel => exact ⟨i + 1, _, by omega, by go_num, HMz2, HH9, HR9, HB9⟩
            case measure => simp [intOf]; omega
      · have HPZ := Aside0.mk (Int.le_refl 0)
        go_wp2_with fail
        generalize wr.alloc (.cells #[.int .u8 op, .int .i64 fr, .int .i64 ct, .slice A3 bl.length c3] 48) = wx at HXB HHx HRx HBx ⊢
        generalize wr.heap.size = xb at HXB HRx HLT ⊢
        clear q0 q1 q2 q3
        go_loopw [6, 9, 66] (fun v6 v9 v66 wi => ∃ j : Nat, j ≤ bl.length ∧ v66 = .int .i64 j ∧ v9 = .int .i64 ((turnB true mw (bl.take j)).2 : Nat) ∧ Aside0 (wi.heap[xb]? = some (.cells #[.int .u8 op, .int .i64 fr, .int .i64 ct, .slice A3 bl.length c3] 48 (0, 0))) ∧ Aside0 (Holds wi g b mw) ∧ Aside0 (Kd.R Kd.bool 4 wi W.heap.size (fun k => k ≠ g ∧ k ≠ b ∧ k ≠ xb) v6 (turnB true mw (bl.take j)).1) ∧ Aside0 (Below W.heap.size W wi)) (fun _ _ v66 _ => bl.length - (intOf v66).toNat)
        case atStart => exact ⟨0, Nat.zero_le _, rfl, rfl, HXB, HHx, HRx, HBx⟩
        case round =>
          obtain ⟨j, hj, rfl, rfl, HXi, HHi, HRi, HBi⟩ := hrel
          have hb40 := HX3.out
          obtain ⟨X0, X1, X2, X3⟩ := cell4 HXi.out
          by_cases hjl : j < bl.length
          · obtain ⟨ad3, eA3, hcx⟩ := C_at (Kd.C_below HC3.out HBi.out) j hjl
            subst eA3
            rw [show rd bl (j : Int) = bl[j] from by unfold rd; simp [List.getD_eq_getElem?_getD, hjl]] at hcx
            have ht : turnB true mw (bl.take (j + 1)) = turnB1 true (turnB true mw (bl.take j)) bl[j] := by rw [List.take_succ_eq_append_getElem hjl, turnB_snoc]
            have hle := turnB_le true mw (bl.take j)
            have hlj : (bl.take j).length ≤ 40 := by simp; omega
            generalize bl[j] = y at hcx ht
            have hlen := turnB_length true mw (bl.take j)
            rw [show turnB1 true (turnB true mw (bl.take j)) y = _ from turnB1_add true (turnB true mw (bl.take j)).1 (turnB true mw (bl.take j)).2 y] at ht
            generalize (turnB true mw (bl.take j)).1 = mj at HRi ht hlen
            generalize (turnB true mw (bl.take j)).2 = kj at ht hle ⊢
            have hk40 : kj ≤ 40 := by omega
            have HT := Aside0.mk ht
            have HML := Aside0.mk (show mj.length ≤ 65534 by have := HMr.out; omega)
            clear ht hle hlj hlen
            go_wp2_with fail
            refine (cantleref10_Turn.calls (fun k => k ≠ g ∧ k ≠ b ∧ k ≠ xb) _ mj y false _ _ W _ HBi.out HRi.out (turn_f mj HML.out y false)).mono ?_
            rintro e w5 ⟨v5, rfl, hR5, hB5, hK5⟩
            have hlt5 := HHi.out.lt
            have hXl := blk_lt HXi.out
            have hh5 : Holds w5 g b mw := by
              obtain ⟨c4, cs4, hI4⟩ := HHi.out
              exact ⟨c4, cs4, hI4.keep (hK5.2 g hlt5.1 (by simp)) (hK5.2 b hlt5.2.1 (by simp))⟩
            have HX5 := Aside0.mk ((hK5.2 xb hXl (by simp)).trans HXi.out)
            have HH5 := Aside0.mk hh5
            have HR5 := Aside0.mk (show Kd.R Kd.bool 4 w5 W.heap.size (fun k => k ≠ g ∧ k ≠ b ∧ k ≠ xb) v5 (turnB1 true (mj, 0) y).1 from Kd.R_mono hR5 (fun k hk => by rcases hk with h | h; exact h; omega))
            have HB5 := Aside0.mk hB5
            have h2 := turnB1_le true mj y
            have hT := HT.out
            clear hR5 hB5 hK5 hh5 hlt5 hXl HXi HHi HRi HBi X0 X1 X2 X3
            rcases h2 with h2 | h2
            · rw [show decide ((turnB1 (!false) (mj, 0) y).2 = 1) = false from by rw [show turnB1 (!false) (mj, 0) y = turnB1 true (mj, 0) y from rfl, h2]; rfl]
              rw [h2] at hT
              have HT2 := Aside0.mk hT
              clear h2 hT HT
              go_wp2_with fail
              go_roundw
              case rel => exact ⟨j + 1, by omega, by go_num, by rw [HT2.out]; go_num, HX5, HH5, by rw [HT2.out]; exact HR5, HB5⟩
              case measure => simp [intOf]; omega
            · rw [show decide ((turnB1 (!false) (mj, 0) y).2 = 1) = true from by rw [show turnB1 (!false) (mj, 0) y = turnB1 true (mj, 0) y from rfl, h2]; rfl]
              rw [h2] at hT
              have HT2 := Aside0.mk hT
              clear h2 hT HT
              go_wp2_with fail
              go_roundw
              case rel => exact ⟨j + 1, by omega, by go_num, by rw [HT2.out]; go_num, HX5, HH5, by rw [HT2.out]; exact HR5, HB5⟩
              case measure => simp [intOf]; omega
          · obtain rfl : j = bl.length := by omega
            rw [List.take_length] at HRi ⊢
            have hle := turnB_le true mw bl
            have hlen := turnB_length true mw bl
            have HPUT := Aside0.mk (fun (w : World) (h : Holds w g b mw) (hC : Kd.C (Kd.int .i64) w A3 bl.length bl) => dropH h (by have := HMr.out; omega) A3 c3 bl hC (fun ad e hl => by have := HLOW.out ad e hl; have := HG.out; omega) (by omega) HX.out.2.2.2)
            generalize (turnB true mw bl).1 = mz at HRi hlen HPUT
            generalize (turnB true mw bl).2 = kz at hle HPUT ⊢
            have dk : (((kz : Nat) : Int) != ((kz : Nat) : Int)) = false := by simp
            have HMz := Aside0.mk (show mz.length ≤ 65534 by have := HMr.out; omega)
            have HMz2 := Aside0.mk (show mz.length ≤ 300 by have := HMr.out; omega)
            clear hle hlen
            go_wp2_with fail
            refine (HPUT.out _ HHi.out (Kd.C_below HC3.out HBi.out)).mono ?_
            rintro e w6 ⟨rfl, hH6, hG6, hS6⟩
            have HHz := Aside0.mk hH6
            have HRz := Aside0.mk (show Kd.R Kd.bool 4 w6 W.heap.size (fun k => k ≠ g ∧ k ≠ b) u6 mz from Kd.R_mono (Kd.R_grown HRi.out hG6 (fun k hk e => hk.2.1 (by cases e; rfl))) (fun k hk => ⟨hk.1, hk.2.1⟩))
            have HBz := Aside0.mk (pw_below_grown HBi.out (some b) HBi.out.size hG6 (fun k hk => by cases hk; exact HG.out.2))
            clear hH6 hG6 hS6 HHi HRi HBi HXi X0 X1 X2 X3
            obtain ⟨A9, c9, rfl, hc9, hC9⟩ := Kd.R_reads HRz.out
            have HSH := Aside0.mk (sameH HHz.out HMz.out A9 c9 hC9 hc9)
            have HRz9 := HRz
            clear HRz hc9 hC9
            go_wp2_with fail
            refine HSH.out.mono ?_
            rintro e w9 ⟨rfl, hB9⟩
            have HH9 := Aside0.mk (HHz.out.below hB9)
            have HR9 := Aside0.mk (Kd.R_below HRz9.out hB9)
            have HB9 := Aside0.mk (below_then HBz.out HBz.out.size hB9)
            go_wp2_with fail
            go_roundw
            case rel => exact ⟨i + 1, _, by omega, by go_num, HMz2, HH9, HR9, HB9⟩
            case measure => simp [intOf]; omega
      · obtain ⟨A6, c6, rfl, hc6, hC6⟩ := Kd.R_reads HRx.out
        have HC6 := Aside0.mk hC6
        have HMz := Aside0.mk (show mw.length ≤ 65534 by have := HMr.out; omega)
        have HMz2 := HMr
        clear hc6 hC6
        have HNX := Aside0.mk (heap_alloc_new wr (.cells #[.int .u8 op, .int .i64 fr, .int .i64 ct, .slice A3 bl.length c3] 48))
        by_cases hrow : rowFree mw fr ct
        · obtain ⟨r1, r2, r3, r4⟩ := hrow
          have hmr := HMr.out
          obtain ⟨a, rfl⟩ := Int.eq_ofNat_of_zero_le r3
          obtain ⟨k, rfl⟩ := Int.eq_ofNat_of_zero_le (show 0 ≤ ct by omega)
          have d1 : decide (1 ≤ (k : Int)) = true := decide_eq_true r1
          have d2 : decide ((k : Int) ≤ (mw.length : Int)) = true := decide_eq_true r2
          have d3 : decide (0 ≤ (a : Int)) = true := decide_eq_true r3
          have ew : wrap64 ((mw.length : Int) - (k : Int)) = (mw.length : Int) - (k : Int) := Math.w64 (by omega) (by omega)
          have d4 : decide ((a : Int) ≤ (mw.length : Int) - (k : Int)) = true := decide_eq_true r4
          go_wp2_with fail
          generalize wr.alloc (.cells #[.int .u8 op, .int .i64 a, .int .i64 k, .slice A3 bl.length c3] 48) = wx at HXB HHx HRx HBx HC6 HNX ⊢
          generalize wr.heap.size = xb at HXB HRx HLT HNX ⊢
          clear q0 q1 q2 q3 HNX d1 d2 d3 d4 ew
          obtain ⟨X0, X1, X2, X3⟩ := cell4 HXB.out
          go_loop [15, 16] (fun v15 v16 => ∃ (mb : Bool) (q : Nat), v15 = .bool mb ∧ v16 = .int .i64 q ∧ q ≤ k ∧ Aside0 (mb = true → ∀ z, z < q → mw.getD (a + z) false = false) ∧ Aside0 (mb = false → 1 ≤ q ∧ mw.getD (a + (q - 1)) false = true)) (fun _ v16 => k - (intOf v16).toNat)
          case atStart => exact ⟨true, 0, rfl, rfl, Nat.zero_le _, ⟨fun _ z hz => by omega⟩, ⟨fun h => by cases h⟩⟩
          case round =>
            obtain ⟨mb, q, rfl, rfl, hq, HT, HF⟩ := hrel
            cases mb with
            | false =>
              obtain ⟨hq1, hqu⟩ := HF.out rfl
              have HNO := Aside0.mk (rowB_used (m := mw) (a := a) (k := k) (a + (q - 1)) (by omega) (by omega) (by omega) hqu)
              clear hqu HT HF
              go_wp2_with fail
              refine (rangeH HHx.out HMz.out (a : Int) (k : Int) (by first | exact HX.out.2.1 | omega) (by first | exact HX.out.2.2.1 | omega)).mono ?_
              rintro e w6 ⟨rfl, hH6, hG6⟩
              rw [HNO.out]
              have hE : rangeE mw (a : Int) (k : Int) = mw := by unfold rangeE; rw [HNO.out]; rfl
              rw [hE] at hH6
              have HHz := Aside0.mk hH6
              have HRz := Aside0.mk (show Kd.R Kd.bool 4 w6 W.heap.size (fun k => k ≠ g ∧ k ≠ b) (.slice A6 mw.length c6) mw from Kd.R_mono (Kd.R_grown HRx.out hG6 (fun k hk e => hk.2.1 (by cases e; rfl))) (fun k hk => ⟨hk.1, hk.2.1⟩))
              have HBz := Aside0.mk (pw_below_grown HBx.out (some b) HBx.out.size hG6 (fun k hk => by cases hk; exact HG.out.2))
              clear hH6 hG6 hE HHx HRx HBx HXB X0 X1 X2 X3
              go_wp2_with fail
              go_loop [6, 17] (fun v6 v17 => v6 = .slice A6 mw.length c6 ∧ v17 = .int .i64 0) (fun _ _ => 0)
              case atStart => exact ⟨rfl, rfl⟩
              case round =>
                obtain ⟨rfl, rfl⟩ := hrel
                obtain ⟨_, hc9, hC9⟩ := Kd.R_reads' HRz.out
                have HSH := Aside0.mk (sameH HHz.out HMz.out A6 c6 hC9 hc9)
                have HRz9 := HRz
                clear HRz hc9 hC9
                go_wp2_with fail
                refine HSH.out.mono ?_
                rintro e w9 ⟨rfl, hB9⟩
                have HH9 := Aside0.mk (HHz.out.below hB9)
                have HR9 := Aside0.mk (Kd.R_below HRz9.out hB9)
                have HB9 := Aside0.mk (below_then HBz.out HBz.out.size hB9)
                go_wp2_with fail
                go_roundw
                case rel => exact ⟨i + 1, _, by omega, by go_num, HMz2, HH9, HR9, HB9⟩
                case measure => simp [intOf]; omega
            | true =>
              have hfree := HT.out rfl
              have HFREE := Aside0.mk hfree
              clear hfree HT HF
              by_cases hqk : q < k
              · have dq : decide ((q : Int) < (k : Int)) = true := decide_eq_true (by omega)
                obtain ⟨pq, hpq⟩ : ∃ x : Nat, a + q = x := ⟨_, rfl⟩
                have es : (a : Int) + (q : Int) = (pq : Int) := by omega
                obtain ⟨ad6, eA6, hc6⟩ := Cb_at HC6.out pq (by omega)
                subst eA6
                have dlt : decide ((pq : Int) < (mw.length : Int)) = true := decide_eq_true (by omega)
                have hlt6 : pq < mw.length := by omega
                have HPQ := Aside0.mk hpq
                clear hpq
                cases hz : mw.getD pq false with
                | false =>
                  rw [hz] at hc6
                  have HZ := Aside0.mk (HPQ.out.symm ▸ hz)
                  clear hz
                  go_wp2_with fail
                  go_round
                  case rel => exact ⟨true, q + 1, by first | rfl | simp, by go_num, by omega, ⟨fun _ z hz => by
                    by_cases h : z < q
                    · exact HFREE.out z h
                    · obtain rfl : z = q := by omega
                      exact HZ.out⟩, ⟨fun h => by cases h⟩⟩
                  case measure => simp [intOf]; omega
                | true =>
                  rw [hz] at hc6
                  have HZ := Aside0.mk (HPQ.out.symm ▸ hz)
                  clear hz
                  go_wp2_with fail
                  go_round
                  case rel => exact ⟨false, q + 1, by first | rfl | simp, by go_num, by omega, ⟨fun h => by cases h⟩, ⟨fun _ => ⟨by omega, by rw [Nat.add_sub_cancel]; exact HZ.out⟩⟩⟩
                  case measure => simp [intOf]; omega
              · obtain rfl : q = k := by omega
                have dq : decide ((q : Int) < (q : Int)) = false := decide_eq_false (by omega)
                have HYES := Aside0.mk (rowB_yes (m := mw) (a := a) (k := q) (by omega) (by omega) (fun z h1 h2 => by have := HFREE.out (z - a) (by omega); rwa [show a + (z - a) = z from by omega] at this))
                go_wp2_with fail
                refine (rangeH HHx.out HMz.out (a : Int) (q : Int) (by omega) (by omega)).mono ?_
                rintro e w6 ⟨rfl, hH6, hG6⟩
                rw [HYES.out]
                have hE : rangeE mw (a : Int) (q : Int) = putsB q (a : Int) mw := by unfold rangeE; rw [HYES.out]; simp
                rw [hE] at hH6
                have HH6 := Aside0.mk hH6
                have HR6 := Aside0.mk (Kd.R_grown HRx.out hG6 (fun k hk e => hk.2.1 (by cases e; rfl)))
                have HB6 := Aside0.mk (pw_below_grown HBx.out (some b) HBx.out.size hG6 (fun k hk => by cases hk; exact HG.out.2))
                have HX6 := Aside0.mk ((hG6.block xb (blk_lt HXB.out) (by have := HLT.out; simp; omega)).trans HXB.out)
                clear hH6 hG6 hE HHx HRx HBx HXB X0 X1 X2 X3 HC6 dq
                go_wp2_with fail
                go_loopw [6, 17] (fun v6 v17 wi => ∃ j : Nat, j ≤ q ∧ v17 = .int .i64 j ∧ Aside0 (wi.heap[xb]? = some (.cells #[.int .u8 op, .int .i64 a, .int .i64 q, .slice A3 bl.length c3] 48 (0, 0))) ∧ Aside0 (Holds wi g b (putsB q (a : Int) mw)) ∧ Aside0 (Kd.R Kd.bool 4 wi W.heap.size (fun k => k ≠ g ∧ k ≠ b ∧ k ≠ xb) v6 (putsB j (a : Int) mw)) ∧ Aside0 (Below W.heap.size W wi)) (fun _ v17 _ => q - (intOf v17).toNat)
                case atStart => exact ⟨0, Nat.zero_le _, rfl, HX6, HH6, HR6, HB6⟩
                case round =>
                  obtain ⟨j, hj, rfl, HXi, HHi, HRi, HBi⟩ := hrel
                  obtain ⟨X0, X1, X2, X3⟩ := cell4 HXi.out
                  by_cases hjq : j < q
                  · have dj : decide ((j : Int) < (q : Int)) = true := decide_eq_true (by omega)
                    have hpl := putsB_length j (a : Int) mw
                    have HPL := Aside0.mk (show (putsB j (a : Int) mw).length ≤ 65534 by rw [hpl]; omega)
                    have HPS := Aside0.mk (show putsB (j + 1) (a : Int) mw = (turnB1 (!true) (putsB j (a : Int) mw, 0) ((a : Int) + (j : Int))).1 from rfl)
                    generalize putsB j (a : Int) mw = mj at HRi HPL HPS
                    clear hpl
                    go_wp2_with fail
                    refine (cantleref10_Turn.calls (fun k => k ≠ g ∧ k ≠ b ∧ k ≠ xb) _ mj ((a : Int) + (j : Int)) true _ _ W _ HBi.out HRi.out (turn_f mj HPL.out ((a : Int) + (j : Int)) true)).mono ?_
                    rintro e w5 ⟨v5, rfl, hR5, hB5, hK5⟩
                    have hlt5 := HHi.out.lt
                    have hXl := blk_lt HXi.out
                    have hh5 : Holds w5 g b (putsB q (a : Int) mw) := by
                      obtain ⟨c4, cs4, hI4⟩ := HHi.out
                      exact ⟨c4, cs4, hI4.keep (hK5.2 g hlt5.1 (by simp)) (hK5.2 b hlt5.2.1 (by simp))⟩
                    have HX5 := Aside0.mk ((hK5.2 xb hXl (by simp)).trans HXi.out)
                    have HH5 := Aside0.mk hh5
                    have HR5 := Aside0.mk (show Kd.R Kd.bool 4 w5 W.heap.size (fun k => k ≠ g ∧ k ≠ b ∧ k ≠ xb) v5 (putsB (j + 1) (a : Int) mw) from by
                      rw [HPS.out]
                      exact Kd.R_mono hR5 (fun k hk => by rcases hk with h | h; exact h; omega))
                    have HB5 := Aside0.mk hB5
                    clear hR5 hB5 hK5 hh5 hlt5 hXl HXi HHi HRi HBi X0 X1 X2 X3
                    go_wp2_with fail
                    go_roundw
                    case rel => exact ⟨j + 1, by omega, by go_num, HX5, HH5, HR5, HB5⟩
                    case measure => simp [intOf]; omega
                  · obtain rfl : j = q := by omega
                    have dj : decide ((j : Int) < (j : Int)) = false := decide_eq_false (by omega)
                    have hpl := putsB_length j (a : Int) mw
                    generalize putsB j (a : Int) mw = mz at HHi HRi hpl
                    have HHz := HHi
                    have HMz' := HMz
                    clear HMz HMz2
                    have HMz := Aside0.mk (show mz.length ≤ 65534 by omega)
                    have HMz2 := Aside0.mk (show mz.length ≤ 300 by omega)
                    have HRz := Aside0.mk (Kd.R_mono HRi.out (fun k (hk : k ≠ g ∧ k ≠ b ∧ k ≠ xb) => (⟨hk.1, hk.2.1⟩ : k ≠ g ∧ k ≠ b)))
                    have HBz := HBi
                    clear hpl
                    obtain ⟨A9, c9, rfl, hc9, hC9⟩ := Kd.R_reads HRz.out
                    have HSH := Aside0.mk (sameH HHz.out HMz.out A9 c9 hC9 hc9)
                    have HRz9 := HRz
                    clear HRz hc9 hC9
                    go_wp2_with fail
                    refine HSH.out.mono ?_
                    rintro e w9 ⟨rfl, hB9⟩
                    have HH9 := Aside0.mk (HHz.out.below hB9)
                    have HR9 := Aside0.mk (Kd.R_below HRz9.out hB9)
                    have HB9 := Aside0.mk (below_then HBz.out HBz.out.size hB9)
                    go_wp2_with fail
                    go_roundw
                    case rel => exact ⟨i + 1, _, by omega, by go_num, HMz2, HH9, HR9, HB9⟩
                    case measure => simp [intOf]; omega
        · have HNO := Aside0.mk (rowB_no hrow)
          have HROW := Aside0.mk hrow
          clear hrow
          have hmr := HMr.out
          by_cases h1 : 1 ≤ ct
          · by_cases h2 : ct ≤ (mw.length : Int)
            · by_cases h3 : 0 ≤ fr
              · skip
                have d1 : decide (1 ≤ ct) = true := decide_eq_true h1
                have d2 : decide (ct ≤ (mw.length : Int)) = true := decide_eq_true h2
                have d3 : decide (0 ≤ fr) = true := decide_eq_true h3
                have ew : wrap64 ((mw.length : Int) - ct) = (mw.length : Int) - ct := Math.w64 (by omega) (by omega)
                have d4 : decide (fr ≤ (mw.length : Int) - ct) = false := decide_eq_false (fun h4 => HROW.out ⟨h1, h2, h3, h4⟩)
                go_wp2_with fail
                generalize wr.alloc (.cells #[.int .u8 op, .int .i64 fr, .int .i64 ct, .slice A3 bl.length c3] 48) = wx at HXB HHx HRx HBx HC6 HNX ⊢
                generalize wr.heap.size = xb at HXB HRx HLT HNX ⊢
                clear q0 q1 q2 q3 HNX
                obtain ⟨X0, X1, X2, X3⟩ := cell4 HXB.out
                go_loop [15, 16] (fun v15 v16 => v15 = .bool false ∧ v16 = .int .i64 0) (fun _ _ => 0)
                case atStart => exact ⟨rfl, rfl⟩
                case round =>
                  obtain ⟨rfl, rfl⟩ := hrel
                  go_wp2_with fail
                  refine (rangeH HHx.out HMz.out fr ct (by first | exact HX.out.2.1 | omega) (by first | exact HX.out.2.2.1 | omega)).mono ?_
                  rintro e w6 ⟨rfl, hH6, hG6⟩
                  rw [HNO.out]
                  have hE : rangeE mw fr ct = mw := by unfold rangeE; rw [HNO.out]; rfl
                  rw [hE] at hH6
                  have HHz := Aside0.mk hH6
                  have HRz := Aside0.mk (show Kd.R Kd.bool 4 w6 W.heap.size (fun k => k ≠ g ∧ k ≠ b) (.slice A6 mw.length c6) mw from Kd.R_mono (Kd.R_grown HRx.out hG6 (fun k hk e => hk.2.1 (by cases e; rfl))) (fun k hk => ⟨hk.1, hk.2.1⟩))
                  have HBz := Aside0.mk (pw_below_grown HBx.out (some b) HBx.out.size hG6 (fun k hk => by cases hk; exact HG.out.2))
                  clear hH6 hG6 hE HHx HRx HBx HXB X0 X1 X2 X3
                  go_wp2_with fail
                  go_loop [6, 17] (fun v6 v17 => v6 = .slice A6 mw.length c6 ∧ v17 = .int .i64 0) (fun _ _ => 0)
                  case atStart => exact ⟨rfl, rfl⟩
                  case round =>
                    obtain ⟨rfl, rfl⟩ := hrel
                    obtain ⟨_, hc9, hC9⟩ := Kd.R_reads' HRz.out
                    have HSH := Aside0.mk (sameH HHz.out HMz.out A6 c6 hC9 hc9)
                    have HRz9 := HRz
                    clear HRz hc9 hC9
                    go_wp2_with fail
                    refine HSH.out.mono ?_
                    rintro e w9 ⟨rfl, hB9⟩
                    have HH9 := Aside0.mk (HHz.out.below hB9)
                    have HR9 := Aside0.mk (Kd.R_below HRz9.out hB9)
                    have HB9 := Aside0.mk (below_then HBz.out HBz.out.size hB9)
                    go_wp2_with fail
                    go_roundw
                    case rel => exact ⟨i + 1, _, by omega, by go_num, HMz2, HH9, HR9, HB9⟩
                    case measure => simp [intOf]; omega
              · skip
                have d1 : decide (1 ≤ ct) = true := decide_eq_true h1
                have d2 : decide (ct ≤ (mw.length : Int)) = true := decide_eq_true h2
                have d3 : decide (0 ≤ fr) = false := decide_eq_false h3
                go_wp2_with fail
                generalize wr.alloc (.cells #[.int .u8 op, .int .i64 fr, .int .i64 ct, .slice A3 bl.length c3] 48) = wx at HXB HHx HRx HBx HC6 HNX ⊢
                generalize wr.heap.size = xb at HXB HRx HLT HNX ⊢
                clear q0 q1 q2 q3 HNX
                obtain ⟨X0, X1, X2, X3⟩ := cell4 HXB.out
                go_loop [15, 16] (fun v15 v16 => v15 = .bool false ∧ v16 = .int .i64 0) (fun _ _ => 0)
                case atStart => exact ⟨rfl, rfl⟩
                case round =>
                  obtain ⟨rfl, rfl⟩ := hrel
                  go_wp2_with fail
                  refine (rangeH HHx.out HMz.out fr ct (by first | exact HX.out.2.1 | omega) (by first | exact HX.out.2.2.1 | omega)).mono ?_
                  rintro e w6 ⟨rfl, hH6, hG6⟩
                  rw [HNO.out]
                  have hE : rangeE mw fr ct = mw := by unfold rangeE; rw [HNO.out]; rfl
                  rw [hE] at hH6
                  have HHz := Aside0.mk hH6
                  have HRz := Aside0.mk (show Kd.R Kd.bool 4 w6 W.heap.size (fun k => k ≠ g ∧ k ≠ b) (.slice A6 mw.length c6) mw from Kd.R_mono (Kd.R_grown HRx.out hG6 (fun k hk e => hk.2.1 (by cases e; rfl))) (fun k hk => ⟨hk.1, hk.2.1⟩))
                  have HBz := Aside0.mk (pw_below_grown HBx.out (some b) HBx.out.size hG6 (fun k hk => by cases hk; exact HG.out.2))
                  clear hH6 hG6 hE HHx HRx HBx HXB X0 X1 X2 X3
                  go_wp2_with fail
                  go_loop [6, 17] (fun v6 v17 => v6 = .slice A6 mw.length c6 ∧ v17 = .int .i64 0) (fun _ _ => 0)
                  case atStart => exact ⟨rfl, rfl⟩
                  case round =>
                    obtain ⟨rfl, rfl⟩ := hrel
                    obtain ⟨_, hc9, hC9⟩ := Kd.R_reads' HRz.out
                    have HSH := Aside0.mk (sameH HHz.out HMz.out A6 c6 hC9 hc9)
                    have HRz9 := HRz
                    clear HRz hc9 hC9
                    go_wp2_with fail
                    refine HSH.out.mono ?_
                    rintro e w9 ⟨rfl, hB9⟩
                    have HH9 := Aside0.mk (HHz.out.below hB9)
                    have HR9 := Aside0.mk (Kd.R_below HRz9.out hB9)
                    have HB9 := Aside0.mk (below_then HBz.out HBz.out.size hB9)
                    go_wp2_with fail
                    go_roundw
                    case rel => exact ⟨i + 1, _, by omega, by go_num, HMz2, HH9, HR9, HB9⟩
                    case measure => simp [intOf]; omega
            · skip
              have d1 : decide (1 ≤ ct) = true := decide_eq_true h1
              have d2 : decide (ct ≤ (mw.length : Int)) = false := decide_eq_false h2
              go_wp2_with fail
              generalize wr.alloc (.cells #[.int .u8 op, .int .i64 fr, .int .i64 ct, .slice A3 bl.length c3] 48) = wx at HXB HHx HRx HBx HC6 HNX ⊢
              generalize wr.heap.size = xb at HXB HRx HLT HNX ⊢
              clear q0 q1 q2 q3 HNX
              obtain ⟨X0, X1, X2, X3⟩ := cell4 HXB.out
              go_loop [15, 16] (fun v15 v16 => v15 = .bool false ∧ v16 = .int .i64 0) (fun _ _ => 0)
              case atStart => exact ⟨rfl, rfl⟩
              case round =>
                obtain ⟨rfl, rfl⟩ := hrel
                go_wp2_with fail
                refine (rangeH HHx.out HMz.out fr ct (by first | exact HX.out.2.1 | omega) (by first | exact HX.out.2.2.1 | omega)).mono ?_
                rintro e w6 ⟨rfl, hH6, hG6⟩
                rw [HNO.out]
                have hE : rangeE mw fr ct = mw := by unfold rangeE; rw [HNO.out]; rfl
                rw [hE] at hH6
                have HHz := Aside0.mk hH6
                have HRz := Aside0.mk (show Kd.R Kd.bool 4 w6 W.heap.size (fun k => k ≠ g ∧ k ≠ b) (.slice A6 mw.length c6) mw from Kd.R_mono (Kd.R_grown HRx.out hG6 (fun k hk e => hk.2.1 (by cases e; rfl))) (fun k hk => ⟨hk.1, hk.2.1⟩))
                have HBz := Aside0.mk (pw_below_grown HBx.out (some b) HBx.out.size hG6 (fun k hk => by cases hk; exact HG.out.2))
                clear hH6 hG6 hE HHx HRx HBx HXB X0 X1 X2 X3
                go_wp2_with fail
                go_loop [6, 17] (fun v6 v17 => v6 = .slice A6 mw.length c6 ∧ v17 = .int .i64 0) (fun _ _ => 0)
                case atStart => exact ⟨rfl, rfl⟩
                case round =>
                  obtain ⟨rfl, rfl⟩ := hrel
                  obtain ⟨_, hc9, hC9⟩ := Kd.R_reads' HRz.out
                  have HSH := Aside0.mk (sameH HHz.out HMz.out A6 c6 hC9 hc9)
                  have HRz9 := HRz
                  clear HRz hc9 hC9
                  go_wp2_with fail
                  refine HSH.out.mono ?_
                  rintro e w9 ⟨rfl, hB9⟩
                  have HH9 := Aside0.mk (HHz.out.below hB9)
                  have HR9 := Aside0.mk (Kd.R_below HRz9.out hB9)
                  have HB9 := Aside0.mk (below_then HBz.out HBz.out.size hB9)
                  go_wp2_with fail
                  go_roundw
                  case rel => exact ⟨i + 1, _, by omega, by go_num, HMz2, HH9, HR9, HB9⟩
                  case measure => simp [intOf]; omega
          · skip
            have d1 : decide (1 ≤ ct) = false := decide_eq_false h1
            go_wp2_with fail
            generalize wr.alloc (.cells #[.int .u8 op, .int .i64 fr, .int .i64 ct, .slice A3 bl.length c3] 48) = wx at HXB HHx HRx HBx HC6 HNX ⊢
            generalize wr.heap.size = xb at HXB HRx HLT HNX ⊢
            clear q0 q1 q2 q3 HNX
            obtain ⟨X0, X1, X2, X3⟩ := cell4 HXB.out
            go_loop [15, 16] (fun v15 v16 => v15 = .bool false ∧ v16 = .int .i64 0) (fun _ _ => 0)
            case atStart => exact ⟨rfl, rfl⟩
            case round =>
              obtain ⟨rfl, rfl⟩ := hrel
              go_wp2_with fail
              refine (rangeH HHx.out HMz.out fr ct (by first | exact HX.out.2.1 | omega) (by first | exact HX.out.2.2.1 | omega)).mono ?_
              rintro e w6 ⟨rfl, hH6, hG6⟩
              rw [HNO.out]
              have hE : rangeE mw fr ct = mw := by unfold rangeE; rw [HNO.out]; rfl
              rw [hE] at hH6
              have HHz := Aside0.mk hH6
              have HRz := Aside0.mk (show Kd.R Kd.bool 4 w6 W.heap.size (fun k => k ≠ g ∧ k ≠ b) (.slice A6 mw.length c6) mw from Kd.R_mono (Kd.R_grown HRx.out hG6 (fun k hk e => hk.2.1 (by cases e; rfl))) (fun k hk => ⟨hk.1, hk.2.1⟩))
              have HBz := Aside0.mk (pw_below_grown HBx.out (some b) HBx.out.size hG6 (fun k hk => by cases hk; exact HG.out.2))
              clear hH6 hG6 hE HHx HRx HBx HXB X0 X1 X2 X3
              go_wp2_with fail
              go_loop [6, 17] (fun v6 v17 => v6 = .slice A6 mw.length c6 ∧ v17 = .int .i64 0) (fun _ _ => 0)
              case atStart => exact ⟨rfl, rfl⟩
              case round =>
                obtain ⟨rfl, rfl⟩ := hrel
                obtain ⟨_, hc9, hC9⟩ := Kd.R_reads' HRz.out
                have HSH := Aside0.mk (sameH HHz.out HMz.out A6 c6 hC9 hc9)
                have HRz9 := HRz
                clear HRz hc9 hC9
                go_wp2_with fail
                refine HSH.out.mono ?_
                rintro e w9 ⟨rfl, hB9⟩
                have HH9 := Aside0.mk (HHz.out.below hB9)
                have HR9 := Aside0.mk (Kd.R_below HRz9.out hB9)
                have HB9 := Aside0.mk (below_then HBz.out HBz.out.size hB9)
                go_wp2_with fail
                go_roundw
                case rel => exact ⟨i + 1, _, by omega, by go_num, HMz2, HH9, HR9, HB9⟩
                case measure => simp [intOf]; omega
      · obtain ⟨A6, c6, rfl, hc6, hC6⟩ := Kd.R_reads HRx.out
        have ht2 : Int.tmod ct 2 = 0 ∨ Int.tmod ct 2 = 1 ∨ Int.tmod ct 2 = -1 := by
          have h1 := Int.tmod_lt_of_pos ct (show (0 : Int) < 2 by omega)
          have h2 : -2 < Int.tmod ct 2 := by have := Int.lt_tmod_of_pos ct (show (0 : Int) < 2 by omega); omega
          omega
        have H15 := Aside0.mk (fun (is : Bool) (k : Nat) => (nextH (HHx.out.drewN k) (by have := HMr.out; omega) fr is HX.out.2.1.1 HX.out.2.1.2).mono fun e w' ⟨he, hw⟩ => (⟨he, hw.symm⟩ : e = _ ∧ w' = _))
        have H29 := Aside0.mk (fun (is : Bool) (k : Nat) => (cantleref10_Next.calls (mw.length + 1) A6 c6 mw fr is _ _ (Kd.C_below hC6 (pw_below_drewN (Below.refl _ _) k)) hc6 (next_f mw (by have := HMr.out; omega) fr is _ (Nat.lt_succ_self _))).mono fun e w' ⟨he, m, hw⟩ => (⟨he, m, hw⟩ : e = _ ∧ ∃ m, w' = _))
        clear hc6 hC6
        generalize hnx : (fun is => nextB mw is (mw.length - fr.toNat) fr.toNat) = nx
        have H15' := Aside0.mk (show ∀ (is : Bool) (k : Nat), Calls Try.prog 15 #[.pointer (some ⟨g, 0, none⟩), .int .i64 fr, .bool is] ((wr.alloc (.cells #[.int .u8 op, .int .i64 fr, .int .i64 ct, .slice A3 bl.length c3] 48)).drewN k) fun e w' => e = .returned (.int .i64 (nx is)) ∧ w' = (wr.alloc (.cells #[.int .u8 op, .int .i64 fr, .int .i64 ct, .slice A3 bl.length c3] 48)).drewN k from by subst hnx; exact H15.out)
        have H29' := Aside0.mk (show ∀ (is : Bool) (k : Nat), Calls Try.prog 29 #[.slice A6 mw.length c6, .int .i64 fr, .bool is] ((wr.alloc (.cells #[.int .u8 op, .int .i64 fr, .int .i64 ct, .slice A3 bl.length c3] 48)).drewN k) fun e w' => e = .returned (.int .i64 (nx is)) ∧ ∃ m, w' = ((wr.alloc (.cells #[.int .u8 op, .int .i64 fr, .int .i64 ct, .slice A3 bl.length c3] 48)).drewN k).drewN m from by subst hnx; exact H29.out)
        clear H15 H29 hnx
        go_wp2_with fail
        generalize wr.alloc (.cells #[.int .u8 op, .int .i64 fr, .int .i64 ct, .slice A3 bl.length c3] 48) = wx at HXB HHx HRx HBx H15' H29' ⊢
        generalize wr.heap.size = xb at HXB HRx HLT ⊢
        clear q0 q1 q2 q3
        obtain ⟨X0, X1, X2, X3⟩ := cell4 HXB.out
        have HMz := Aside0.mk (show mw.length ≤ 65534 by have := HMr.out; omega)
        have HMz2 := HMr
        rcases ht2 with et2 | et2 | et2
        · have hxx : (nx true != nx true) = false := by simp
          have G15 := Aside0.mk (H15'.out true)
          have G29 := Aside0.mk (H29'.out true)
          clear H15' H29'
          go_quiet ((first | (go_at_call 15; exact Calls.quiet_of_same (G15.out _)) | (go_at_call 29; exact Calls.quiet_of (G29.out _))))
          have HHz := Aside0.mk (HHx.out.drewN nq)
          have HRz := Aside0.mk (show Kd.R Kd.bool 4 (wx.drewN nq) W.heap.size (fun k => k ≠ g ∧ k ≠ b) (.slice A6 mw.length c6) mw from Kd.R_mono (Kd.R_below HRx.out (pw_below_drewN (Below.refl _ _) nq)) (fun k hk => ⟨hk.1, hk.2.1⟩))
          have HBz := Aside0.mk (pw_below_drewN HBx.out nq)
          clear HHx HRx HBx HXB X0 X1 X2 X3 G15 G29
          generalize wx.drewN nq = wz at HHz HRz HBz ⊢
          obtain ⟨_, hc9, hC9⟩ := Kd.R_reads' HRz.out
          have HSH := Aside0.mk (sameH HHz.out HMz.out A6 c6 hC9 hc9)
          have HRz9 := HRz
          clear HRz hc9 hC9
          go_wp2_with fail
          refine HSH.out.mono ?_
          rintro e w9 ⟨rfl, hB9⟩
          have HH9 := Aside0.mk (HHz.out.below hB9)
          have HR9 := Aside0.mk (Kd.R_below HRz9.out hB9)
          have HB9 := Aside0.mk (below_then HBz.out HBz.out.size hB9)
          go_wp2_with fail
          go_roundw
          case rel => exact ⟨i + 1, _, by omega, by go_num, HMz2, HH9, HR9, HB9⟩
          case measure => simp [intOf]; omega
        · have hxx : (nx false != nx false) = false := by simp
          have G15 := Aside0.mk (H15'.out false)
          have G29 := Aside0.mk (H29'.out false)
          clear H15' H29'
          go_quiet ((first | (go_at_call 15; exact Calls.quiet_of_same (G15.out _)) | (go_at_call 29; exact Calls.quiet_of (G29.out _))))
          have HHz := Aside0.mk (HHx.out.drewN nq)
          have HRz := Aside0.mk (show Kd.R Kd.bool 4 (wx.drewN nq) W.heap.size (fun k => k ≠ g ∧ k ≠ b) (.slice A6 mw.length c6) mw from Kd.R_mono (Kd.R_below HRx.out (pw_below_drewN (Below.refl _ _) nq)) (fun k hk => ⟨hk.1, hk.2.1⟩))
          have HBz := Aside0.mk (pw_below_drewN HBx.out nq)
          clear HHx HRx HBx HXB X0 X1 X2 X3 G15 G29
          generalize wx.drewN nq = wz at HHz HRz HBz ⊢
          obtain ⟨_, hc9, hC9⟩ := Kd.R_reads' HRz.out
          have HSH := Aside0.mk (sameH HHz.out HMz.out A6 c6 hC9 hc9)
          have HRz9 := HRz
          clear HRz hc9 hC9
          go_wp2_with fail
          refine HSH.out.mono ?_
          rintro e w9 ⟨rfl, hB9⟩
          have HH9 := Aside0.mk (HHz.out.below hB9)
          have HR9 := Aside0.mk (Kd.R_below HRz9.out hB9)
          have HB9 := Aside0.mk (below_then HBz.out HBz.out.size hB9)
          go_wp2_with fail
          go_roundw
          case rel => exact ⟨i + 1, _, by omega, by go_num, HMz2, HH9, HR9, HB9⟩
          case measure => simp [intOf]; omega
        · have hxx : (nx false != nx false) = false := by simp
          have G15 := Aside0.mk (H15'.out false)
          have G29 := Aside0.mk (H29'.out false)
          clear H15' H29'
          go_quiet ((first | (go_at_call 15; exact Calls.quiet_of_same (G15.out _)) | (go_at_call 29; exact Calls.quiet_of (G29.out _))))
          have HHz := Aside0.mk (HHx.out.drewN nq)
          have HRz := Aside0.mk (show Kd.R Kd.bool 4 (wx.drewN nq) W.heap.size (fun k => k ≠ g ∧ k ≠ b) (.slice A6 mw.length c6) mw from Kd.R_mono (Kd.R_below HRx.out (pw_below_drewN (Below.refl _ _) nq)) (fun k hk => ⟨hk.1, hk.2.1⟩))
          have HBz := Aside0.mk (pw_below_drewN HBx.out nq)
          clear HHx HRx HBx HXB X0 X1 X2 X3 G15 G29
          generalize wx.drewN nq = wz at HHz HRz HBz ⊢
          obtain ⟨_, hc9, hC9⟩ := Kd.R_reads' HRz.out
          have HSH := Aside0.mk (sameH HHz.out HMz.out A6 c6 hC9 hc9)
          have HRz9 := HRz
          clear HRz hc9 hC9
          go_wp2_with fail
          refine HSH.out.mono ?_
          rintro e w9 ⟨rfl, hB9⟩
          have HH9 := Aside0.mk (HHz.out.below hB9)
          have HR9 := Aside0.mk (Kd.R_below HRz9.out hB9)
          have HB9 := Aside0.mk (below_then HBz.out HBz.out.size hB9)
          go_wp2_with fail
          go_roundw
          case rel => exact ⟨i + 1, _, by omega, by go_num, HMz2, HH9, HR9, HB9⟩
          case measure => simp [intOf]; omega
    · obtain rfl : i = l.length := by omega
      go_wp2_with fail
      go_ret
      exact ⟨rfl, HBr.out⟩
end Go.Proofs.Ytcknljndogbbhaa.Bm
