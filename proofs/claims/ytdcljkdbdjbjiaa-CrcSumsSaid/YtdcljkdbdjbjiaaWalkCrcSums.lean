/- CrcSums: the walk through the law function, by hand: the short way, and the way over all the sums. -/
import Derived.Test.YtdcljkdbdjbjiaaPCrcSumsx
import Derived.Test.YtdcljkdbdjbjiaaMath
namespace Go.Proofs.Ytdcljkdbdjbjiaa.PCrcSums
open Go.RowKit Go.Proofs.YtdcljkdbdjbjiaaW.PrintWords Go.Proofs.YtdcljkdbdjbjiaaW.PrintLast Go.Proofs.YtdcljkdbdjbjiaaW.PrintMore
set_option linter.unusedVariables false
theorem short_calls (k : Nat) (A0 : Option Addr) (c0 : Nat) (l : List (List Int)) (w : World) (hr0 : Kd.C (Kd.slice 5 (Kd.int .u8)) w A0 l.length l) (hc0 : l.length ≤ c0) (hf : cantlelaw02_few.f k l = some false) :
    Calls Try.prog 6 #[.slice A0 l.length c0] w fun e w' => e = .returned (.bool true) ∧ Below w.heap.size w w' := by
  have HR := Aside0.mk hr0
  have HC := Aside0.mk hc0
  clear hr0 hc0
  go_enter Try.func6, Try.ntmps6
  go_wp2_with fail
  refine (cantlelaw02_Lives.calls true _ rfl).mono ?_
  rintro e w1 ⟨rfl, hb⟩
  have hb1 := Aside0.mk hb
  clear hb
  go_wp2_with fail
  refine (cantlelaw02_few.calls k A0 c0 l false _ (Kd.C_below HR.out hb1.out) HC.out hf).mono ?_
  rintro e w2 ⟨rfl, nd, rfl⟩
  go_wp2_with fail
  refine (cantlelaw02_Lives.calls true _ rfl).mono ?_
  rintro e w3 ⟨rfl, hb⟩
  have hb2 := Aside0.mk hb
  clear hb
  go_wp2_with fail
  go_ret
  exact ⟨rfl, below_step (pw_below_drewN hb1.out nd) hb2.out⟩
def cat (l : List (List Int)) : List Int := l.flatten
theorem str_app (a b : List Int) : strOfNums a ++ strOfNums b = strOfNums (a ++ b) := by
  unfold strOfNums
  apply ByteArray.ext
  simp [ByteArray.data_append]
theorem str_len (a : List Int) : (strOfNums a).size = a.length := by
  unfold strOfNums
  simp [ByteArray.size]
theorem cat_step (l : List (List Int)) (i : Nat) (h : i < l.length) : cat (l.take (i + 1)) = cat (l.take i) ++ rd_L1 l (i : Int) := by
  have e : rd_L1 l (i : Int) = l[i] := by unfold rd_L1; simp [List.getD_eq_getElem?_getD, List.getElem?_eq_getElem h]
  rw [e]
  unfold cat
  rw [List.take_succ_eq_append_getElem h, List.flatten_append]
  simp
theorem cat_le (l : List (List Int)) (i : Nat) : (cat (l.take i)).length ≤ l.flatten.length := by
  conv => rhs; rw [← List.take_append_drop i l]
  unfold cat
  rw [List.flatten_append, List.length_append]; omega
theorem str_at (xs : List Int) (j : Nat) (x : Int) (h : xs[j]? = some x) (h0 : 0 ≤ x) (h1 : x < 256) : (((strOfNums xs).data.toList.getD j 0).toNat : Int) = x := by
  unfold strOfNums
  simp only [List.getD_eq_getElem?_getD]
  simp [h, UInt8.toNat_ofNat']
  omega
/-- []byte(s) in a row of one. -/
def cw (w : World) (xs : List Int) : World := (Lib.bytesWorld w 5 (strOfNums xs)).alloc (.cells #[.slice (some { block := w.heap.size, off := 0 }) (strOfNums xs).size (grownCap w (strOfNums xs).size 0 5)] 41)
theorem cw_C (w : World) (xs : List Int) (hb : ∀ x ∈ xs, 0 ≤ x ∧ x < 256) (hl : xs.length ≤ 4000) :
    (Kd.slice 5 (Kd.int .u8)).C (cw w xs) (some ⟨(Lib.bytesWorld w 5 (strOfNums xs)).heap.size, 0, none⟩) [xs].length [xs] := by
  refine Mem.C_row1 (A := some ⟨w.heap.size, 0, none⟩) (c := grownCap w (strOfNums xs).size 0 5) ?_ ?_ ?_
  · have := Mem.cell_new (Lib.bytesWorld w 5 (strOfNums xs)) #[.slice (some { block := w.heap.size, off := 0 }) (strOfNums xs).size (grownCap w (strOfNums xs).size 0 5)] 41 (0, 0) 0
    rw [show xs.length = (strOfNums xs).size from (str_len xs).symm]
    exact this
  · have := grownCap_ge w (strOfNums xs).size 0 5
    rw [str_len] at this ⊢; exact this
  · refine Kd.C_below (w := Lib.bytesWorld w 5 (strOfNums xs)) ?_ (below_alloc (Below.refl _ _) _)
    refine Mem.C_cells_int (by omega) (fun j x hx => ?_)
    have hj := (List.getElem?_eq_some_iff.1 hx).1
    obtain ⟨h0, h1⟩ := hb x (List.mem_of_getElem? hx)
    rw [add_plain, Lib.bytesWorld_cell _ _ _ _ (by rw [str_len]; exact hj), str_at xs j x hx h0 h1]
theorem cw_below {B : Nat} {w0 : World} (w : World) (xs : List Int) (h : Below B w0 w) (hB : B ≤ w.heap.size) : Below B w0 (cw w xs) := by
  have h1 := bytes_below h hB 5 (strOfNums xs)
  exact h1.alloc (by rw [Lib.bytesWorld_size]; omega) _
set_option maxHeartbeats 1000000 in
theorem long_calls (k : Nat) (r s : Int) (A0 : Option Addr) (c0 : Nat) (l : List (List Int)) (w : World) (hr0 : Kd.C (Kd.slice 5 (Kd.int .u8)) w A0 l.length l) (hc0 : l.length ≤ c0) (hf : cantlelaw02_few.f k l = some true)
    (hby : ∀ x ∈ l.flatten, 0 ≤ x ∧ x < 256) (hsz : l.flatten.length ≤ 4000) (h20 : l.length ≤ 20)
    (s32 : crc_Sum32.f k l = some r) (q32 : cantleref02_Sum32.f k (strOfNums l.flatten) = some r) (t32 : crc_Sum32.f k [l.flatten] = some r)
    (s16 : crc_Sum16.f k l = some s) (q16 : cantleref02_Sum16.f k (strOfNums l.flatten) = some s) (t16 : crc_Sum16.f k [l.flatten] = some s) :
    Calls Try.prog 6 #[.slice A0 l.length c0] w fun e w' => e = .returned (.bool true) ∧ Below w.heap.size w w' := by
  have HR := Aside0.mk hr0
  have HC := Aside0.mk hc0
  have HS := Aside0.mk hsz
  have HY := Aside0.mk hby
  have H2 := Aside0.mk h20
  clear hr0 hc0 hsz h20 hby
  have X := Aside0.mk (And.intro s32 (And.intro q32 (And.intro t32 (And.intro s16 (And.intro q16 t16)))))
  clear s32 q32 t32 s16 q16 t16
  go_enter Try.func6, Try.ntmps6
  go_wp2_with fail
  refine (cantlelaw02_Lives.calls true _ rfl).mono ?_
  rintro e w1 ⟨rfl, hb⟩
  have hb1 := Aside0.mk hb
  have HR1 := Aside0.mk (Kd.C_below HR.out hb)
  clear hb
  go_wp2_with fail
  refine (cantlelaw02_few.calls k A0 c0 l true _ HR1.out HC.out hf).mono ?_
  rintro e w2 ⟨rfl, nd, rfl⟩
  clear hf
  have HR2 := Aside0.mk (Kd.C_drewN HR1.out nd)
  clear HR1
  generalize hw2 : w1.drewN nd = w2 at HR2 ⊢
  have hb2 : Aside0 (Below w.heap.size w w2) := Aside0.mk (by rw [← hw2]; exact pw_below_drewN hb1.out nd)
  clear hw2 hb1
  go_wp2
  go_loop [3, 16] (fun v3 v16 => ∃ i : Nat, Aside0 (i ≤ l.length) ∧ v16 = .int .i64 i ∧ v3 = .string (strOfNums (cat (l.take i)))) (fun _ v16 => l.length - (intOf v16).toNat)
  case atStart => exact ⟨0, ⟨Nat.zero_le _⟩, rfl, by simp [cat, strOfNums]⟩
  case round =>
    obtain ⟨i, hi, rfl, rfl⟩ := hrel
    by_cases hlt : i < l.length
    · have c1 : decide ((i : Int) < (l.length : Int)) = true := decide_eq_true (by omega)
      obtain ⟨ad, A1, c1', e1, hx, hl, hC⟩ := at_L1 HR2.out (i : Int) (by omega) (by omega)
      cases e1
      have hcv := Kd.C_string (P := Try.prog) (A := A1) (c := c1') Try.underlying41 Try.underlying5 Try.underlying9 hC
      rw [Int.toNat_natCast] at hx
      clear hC hl
      have p : (0 ≤ (i : Int)) = True := eq_true (by omega)
      have q : ((i : Int) < (l.length : Int)) = True := eq_true (by omega)
      have hst := Aside0.mk (cat_step l i hlt)
      have hle := Aside0.mk (cat_le l (i + 1))
      go_wp2_with fail
      · rename_i h_ _
        rw [str_len, str_len] at h_
        have := hle.out
        rw [hst.out, List.length_append] at this
        have := HS.out
        omega
      · have ew : wrap64 ((i : Int) + 1) = ((i + 1 : Nat) : Int) := by have := H2.out; rw [Math.w64 (by omega) (by omega)]; omega
        rw [ew]
        refine ⟨⟨i + 1, ⟨by omega⟩, rfl, by rw [hst.out, str_app]⟩, ?_⟩
        simp [intOf]; omega
    · have c1 : decide ((i : Int) < (l.length : Int)) = false := decide_eq_false (by omega)
      obtain rfl : i = l.length := by have := hi.out; omega
      go_wp2_with fail
      refine (crc_Sum32.calls k _ _ l r _ HR2.out HC.out X.out.1).mono ?_
      rintro e w3 ⟨rfl, n3, rfl⟩
      go_wp2_with fail
      have et : cat (l.take l.length) = l.flatten := by rw [List.take_length]; rfl
      refine (cantleref02_Sum32.calls k _ r _ X.out.2.1).mono ?_
      rintro e w4 ⟨rfl, n4, rfl⟩
      go_wp2_with fail
      refine (crc_Sum16.calls k _ _ l s _ (Kd.C_drewN HR2.out _) HC.out X.out.2.2.2.1).mono ?_
      rintro e w5 ⟨rfl, n5, rfl⟩
      go_wp2_with fail
      refine (cantleref02_Sum16.calls k _ s _ X.out.2.2.2.2.1).mono ?_
      rintro e w6 ⟨rfl, n6, rfl⟩
      have hb7 := Aside0.mk (pw_below_drewN hb2.out (n3 + n4 + n5 + n6))
      have HR7 := Aside0.mk (Kd.C_drewN HR2.out (n3 + n4 + n5 + n6))
      rw [show (w2.drewN (n3 + n4 + n5)).drewN n6 = w2.drewN (n3 + n4 + n5 + n6) from by simp]
      generalize w2.drewN (n3 + n4 + n5 + n6) = w7 at hb7 HR7 ⊢
      have hcv := Lib.run_convert_string_bytes (P := Try.prog) w7 9 41 5 (strOfNums (cat l)) Try.underlying9 Try.underlying41 Try.underlying5
      go_wp2_with fail
      have hC8 := Aside0.mk (cw_C w7 l.flatten HY.out HS.out)
      have hb8 := Aside0.mk (cw_below w7 l.flatten hb7.out hb7.out.size)
      have hR8 := Aside0.mk (Kd.C_below HR7.out (cw_below w7 l.flatten (Below.refl _ _) (Nat.le_refl _)))
      refine (crc_Sum32.calls k _ _ [l.flatten] r (cw w7 l.flatten) hC8.out (Nat.le_refl _) X.out.2.2.1).mono ?_
      rintro e w9 ⟨rfl, n9, rfl⟩
      have hb10 := Aside0.mk (pw_below_drewN hb8.out n9)
      have hR10 := Aside0.mk (Kd.C_drewN hR8.out n9)
      generalize (cw w7 l.flatten).drewN n9 = w10 at hb10 hR10 ⊢
      clear hcv hb8 hR8 hC8 hb7 HR7
      go_wp2_with fail
      refine (crc_Sum32.calls k _ _ l r _ hR10.out HC.out X.out.1).mono ?_
      rintro e w11 ⟨rfl, n11, rfl⟩
      have hb12 := Aside0.mk (pw_below_drewN hb10.out n11)
      have hR12 := Aside0.mk (Kd.C_drewN hR10.out n11)
      generalize w10.drewN n11 = w12 at hb12 hR12 ⊢
      clear hb10 hR10
      have hcv := Lib.run_convert_string_bytes (P := Try.prog) w12 9 41 5 (strOfNums (cat l)) Try.underlying9 Try.underlying41 Try.underlying5
      go_wp2_with fail
      have hC13 := Aside0.mk (cw_C w12 l.flatten HY.out HS.out)
      have hb13 := Aside0.mk (cw_below w12 l.flatten hb12.out hb12.out.size)
      have hR13 := Aside0.mk (Kd.C_below hR12.out (cw_below w12 l.flatten (Below.refl _ _) (Nat.le_refl _)))
      refine (crc_Sum16.calls k _ _ [l.flatten] s (cw w12 l.flatten) hC13.out (Nat.le_refl _) X.out.2.2.2.2.2).mono ?_
      rintro e w14 ⟨rfl, n14, rfl⟩
      have hb15 := Aside0.mk (pw_below_drewN hb13.out n14)
      have hR15 := Aside0.mk (Kd.C_drewN hR13.out n14)
      generalize (cw w12 l.flatten).drewN n14 = w15 at hb15 hR15 ⊢
      clear hcv hb13 hR13 hC13 hb12 hR12
      go_wp2_with fail
      refine (crc_Sum16.calls k _ _ l s _ hR15.out HC.out X.out.2.2.2.1).mono ?_
      rintro e w16 ⟨rfl, n16, rfl⟩
      go_wp2_with fail
      go_ret
      exact ⟨rfl, pw_below_drewN hb15.out n16⟩
end Go.Proofs.Ytdcljkdbdjbjiaa.PCrcSums
