/- CrcBursts: the walk through the law function, by hand. Conditions: as each lemma says. -/
import Derived.Test.YtdcljkdbdjbjiaaCbM
import Derived.Test.YtdcljkdbdjbjiaaMem
import Derived.Deep.QuietTactic
import Derived.BigQuiet
namespace Go.Proofs.Ytdcljkdbdjbjiaa.Cb
open Go.RowKit Go.Proofs.Ytdcljkdbdjbjiaa.PCrcSums Go.Proofs.YtdcljkdbdjbjiaaW.PrintWords Go.Proofs.YtdcljkdbdjbjiaaW.PrintLast Go.Proofs.YtdcljkdbdjbjiaaW.PrintMore
set_option linter.unusedVariables false
theorem toList_inj {a b : ByteArray} (h : a.toList = b.toList) : a = b := by
  rw [ByteArray.toList_eq, ByteArray.toList_eq] at h
  cases a
  cases b
  congr
  exact Array.toList_inj.1 h
theorem infos5 : (Try.prog.info? 5).map (fun i => (i.zero, i.size, i.bytes)) = some (some (.int .u8 0), 1, 1) := by kernel_rfl
theorem row1 {W : World} {ad : Addr} {A : Option Addr} {c : Nat} (xs : List Int) (h0 : W.cell? ad = some (.slice A xs.length c)) (hx : xs.length ≤ c) (C0 : (Kd.int .u8).C W A xs.length xs) :
    (Kd.slice 5 (Kd.int .u8)).C W (some ad) 1 [xs] := Mem.C_row1 h0 hx C0
theorem xor8 (x : Int) (j : Nat) (h : 0 ≤ x ∧ x < 256) (hj : j < 8) : Go.bits .xor .u8 x (2 ^ j % 256) = fb x j := by
  obtain ⟨n, rfl⟩ := Int.eq_ofNat_of_zero_le h.1
  have hp : 2 ^ j < 2 ^ 8 := Nat.pow_lt_pow_right (by decide) hj
  have e : ((2 : Int) ^ j % 256) = ((2 ^ j : Nat) : Int) := by
    rw [← Math.pow_cast]
    exact Int.emod_eq_of_lt (Int.natCast_nonneg _) (Int.ofNat_lt.2 hp)
  rw [e, Math.bits_xor .u8 rfl n (2 ^ j) (by show n < 2 ^ 8; omega) hp]
  unfold fb
  rw [Int.toNat_natCast]
set_option maxHeartbeats 2000000 in
theorem bursts_none (w0 : World) (A : Option Addr) (c : Nat) (b : List Int) (at_ mask : Int) (h : b.length = 0 ∨ 200 < b.length ∨ mask = 0) :
    Calls Try.prog 7 #[.slice A b.length c, .int .u16 at_, .int .u32 mask] w0 fun e w' => e = .returned (.bool true) ∧ Below w0.heap.size w0 w' := by
  go_enter Try.func7, Try.ntmps7
  by_cases h0 : b.length = 0
  · have d0 : ((b.length : Int) == 0) = true := by rw [beq_iff_eq]; omega
    clear h h0
    go_wp2_with fail
    refine (cantlelaw02_Lives.calls true _ rfl).mono ?_
    rintro e w1 ⟨rfl, hb⟩
    have hb1 := Aside0.mk hb
    clear hb
    go_wp2_with fail
    refine (cantlelaw02_Lives.calls true _ rfl).mono ?_
    rintro e w2 ⟨rfl, hb⟩
    have hb2 := Aside0.mk hb
    clear hb
    go_wp2_with fail
    go_ret
    exact ⟨rfl, below_step hb1.out hb2.out⟩
  · have d0 : ((b.length : Int) == 0) = false := by rw [beq_eq_false_iff_ne]; omega
    by_cases h2 : 200 < b.length
    · have d2 : decide (200 < (b.length : Int)) = true := decide_eq_true (by omega)
      clear h h0 h2
      go_wp2_with fail
      refine (cantlelaw02_Lives.calls true _ rfl).mono ?_
      rintro e w1 ⟨rfl, hb⟩
      have hb1 := Aside0.mk hb
      clear hb
      go_wp2_with fail
      refine (cantlelaw02_Lives.calls true _ rfl).mono ?_
      rintro e w2 ⟨rfl, hb⟩
      have hb2 := Aside0.mk hb
      clear hb
      go_wp2_with fail
      go_ret
      exact ⟨rfl, below_step hb1.out hb2.out⟩
    · have d2 : decide (200 < (b.length : Int)) = false := decide_eq_false (by omega)
      obtain rfl : mask = 0 := by omega
      clear h h0 h2
      go_wp2_with fail
      refine (cantlelaw02_Lives.calls true _ rfl).mono ?_
      rintro e w1 ⟨rfl, hb⟩
      have hb1 := Aside0.mk hb
      clear hb
      go_wp2_with fail
      refine (cantlelaw02_Lives.calls true _ rfl).mono ?_
      rintro e w2 ⟨rfl, hb⟩
      have hb2 := Aside0.mk hb
      clear hb
      go_wp2_with fail
      go_ret
      exact ⟨rfl, below_step hb1.out hb2.out⟩
set_option maxRecDepth 100000 in
set_option maxHeartbeats 8000000 in
theorem bursts_short (w0 : World) (A : Option Addr) (c : Nat) (b : List Int) (at_ mask : Int) (hl0 : 0 < b.length) (hl : b.length ≤ 200) (hC : Kd.C (Kd.int .u8) w0 A b.length b) (hc : b.length ≤ c) (ho : Oct b) (ha : 0 ≤ at_ ∧ at_ < 65536) (hm : 0 < mask ∧ mask < 4294967296) :
    Calls Try.prog 7 #[.slice A b.length c, .int .u16 at_, .int .u32 mask] w0 fun e w' => e = .returned (.bool true) ∧ Below w0.heap.size w0 w' := by
  have d0 : ((b.length : Int) == 0) = false := by rw [beq_eq_false_iff_ne]; omega
  have d2 : decide (200 < (b.length : Int)) = false := decide_eq_false (by omega)
  have d3 : (mask == 0) = false := by rw [beq_eq_false_iff_ne]; omega
  have e4 : IntKind.i64.wrap (8 * (b.length : Int)) = 8 * (b.length : Int) := by rw [IntKind.wrap_i64]; omega
  have e40 : (8 * (b.length : Int) = 0) = False := eq_false (by omega)
  obtain ⟨f, hf⟩ : ∃ f : Nat, at_ % (8 * (b.length : Int)) = (f : Int) := Int.eq_ofNat_of_zero_le (Int.emod_nonneg _ (by omega))
  have hfl : f < 8 * b.length := by have := Int.emod_lt_of_pos at_ (show (0 : Int) < 8 * (b.length : Int) by omega); rw [hf] at this; omega
  have e5 : Int.tmod at_ (8 * (b.length : Int)) = (f : Int) := by rw [Int.tmod_eq_emod_of_nonneg ha.1, hf]
  have HL := Aside0.mk (And.intro hl0 (And.intro hl (And.intro hfl hm)))
  have HC := Aside0.mk hC
  have HCC := Aside0.mk hc
  have HO := Aside0.mk ho
  clear hl0 hl hC hc ho hm hf hfl
  have e3 : wrap64 (at_) = at_ := Math.w64 (by omega) (by omega)
  clear ha
  go_enter Try.func7, Try.ntmps7
  go_wp2_with fail
  refine (cantlelaw02_Lives.calls true _ rfl).mono ?_
  rintro e w1 ⟨rfl, hb⟩
  have HB := Aside0.mk hb
  clear hb
  go_upto_region 5 with (first
    | ((with_reducible refine gate_dst (N := 30) rfl ?_); (try (refine gate_guard (by rfl) ?_; dsimp only)); refine Kd.R_lit (Kd.int .u8) _ 5 ?hg (N := 30) ?hd (xs := ([] : List Int)) (inner := []) (ok := fun _ => True) (okp := fun _ => True) ?hr ?hp (fun _ hk => hk) trivial (Below.refl _ _) (Nat.le_refl _) (by simp) ?_; (case hd => rfl); (case hg => rfl); (case hr => first | (go_simp; done) | (go_simp; rfl)); (case hp => exact (Reps.none _ _)); intro v7 w7 ho hb hg_ hnew_; clear hg_ hnew_; have n0_ := Aside0.mk (Kd.R_lower ho (below_size HB.out)); have n1_ := Aside0.mk (below_step HB.out hb); clear HB; have HQ := n0_; have HB := n1_; clear n0_ n1_; clear hb ho)
    | ((with_reducible refine gate_builtin (b := .append) (xs := #[.tmp 30, .tmp 31]) rfl ?_); (try (refine gate_guard (by rfl) ?_; dsimp only)); at_builtin; refine Kd.R_append_rows (Kd.int .u8) (w0 := w0) w0.heap.size rfl (.tmp 30) (.tmp 31) 41 5 (.int .u8 0) 1 rfl Try.underlying41 infos5 rfl (by decide) (by omega) v7 [] b _ _ _ (fun _ => True) (fun _ => False) rfl rfl ?aO ?aR (fun _ _ h => h) (fun _ h => h.elim) ?aF ?aB ?aS ?aL ?_; (case aR => exact (Kd.C_below HC.out HB.out)); (case aB => exact HB.out); (case aF => exact (fun _ _ => trivial)); (case aO => exact HQ.out); (case aS => exact (below_size HB.out)); (case aL => (have := HL.out.2.1; simp; omega)); intro v8 w8 ho hb hg hat; rw [List.nil_append] at ho; have n0_ := Aside0.mk (hb); have n1_ := Aside0.mk (ho); clear HB; clear HQ; have HB := n0_; have HP := n1_; clear n0_ n1_; clear ho hb hg hat)
    | ((with_reducible refine gate_dst (N := 33) rfl ?_); (try (refine gate_guard (by rfl) ?_; dsimp only)); refine Kd.R_lit (Kd.int .u8) _ 5 ?hg (N := 33) ?hd (xs := ([] : List Int)) (inner := []) (ok := fun _ => True) (okp := fun _ => True) ?hr ?hp (fun _ hk => hk) trivial (Below.refl _ _) (Nat.le_refl _) (by simp) ?_; (case hd => rfl); (case hg => rfl); (case hr => first | (go_simp; done) | (go_simp; rfl)); (case hp => exact (Reps.none _ _)); intro v9 w9 ho hb hg_ hnew_; clear hg_ hnew_; have HQ := Aside0.mk ho; have HB9 := Aside0.mk hb; clear hb ho)
    | ((with_reducible refine gate_builtin (b := .append) (xs := #[.tmp 33, .tmp 34]) rfl ?_); (try (refine gate_guard (by rfl) ?_; dsimp only)); at_builtin; refine Kd.R_append_rows (Kd.int .u8) (w0 := w8) w8.heap.size rfl (.tmp 33) (.tmp 34) 41 5 (.int .u8 0) 1 rfl Try.underlying41 infos5 rfl (by decide) (by omega) v9 [] b _ _ _ (fun _ => True) (fun _ => False) rfl rfl ?aO ?aR (fun _ _ h => h) (fun _ h => h.elim) ?aF ?aB ?aS ?aL ?_; (case aR => exact (Kd.C_below (Kd.C_below HC.out HB.out) HB9.out)); (case aB => exact HB9.out); (case aF => exact (fun _ _ => trivial)); (case aO => exact HQ.out); (case aS => exact (below_size HB9.out)); (case aL => (have := HL.out.2.1; simp; omega)); intro v10 w10 ho hb hg hat; rw [List.nil_append] at ho; have n0_ := Aside0.mk (hb); have n1_ := Aside0.mk (ho); clear HB9; clear HQ; have HB9 := n0_; have HD := n1_; clear n0_ n1_; clear ho hb hg hat))
  have hl0 := HL.out.1
  obtain ⟨g, cg, rfl, hcg, hG⟩ := Row.of_R HP.out hl0
  obtain ⟨h, ch, rfl, hch, hH⟩ := Row.of_R HD.out hl0
  have HGH := Aside0.mk (show g ≠ h from by have := hG.lt; have := hH.ge; omega)
  have HRC := Aside0.mk (hG.keep (HB9.out.block g hG.lt))
  have HRD := Aside0.mk (show Row w10 w0.heap.size h b from ⟨hH.bl, Nat.le_trans HB.out.size hH.ge⟩)
  have HB10 := Aside0.mk (below_then HB.out HB.out.size HB9.out)
  have HCG := Aside0.mk (And.intro hcg hch)
  clear hG hH HP HD HB HB9 hcg hch e5 e3
  have hl := HL.out.2.1
  have hf := HL.out.2.2.1
  go_wp2_with fail
  go_loopw [10, 42] (fun v10 v42 wr => ∃ (i t : Nat) (C D : List Int), i ≤ 32 ∧ t ≤ i ∧ v42 = .int .i64 i ∧ v10 = .int .i64 t ∧ Aside0 (InvC b f i C) ∧ Aside0 (InvD b f i t D) ∧ Aside0 (Row wr w0.heap.size g C) ∧ Aside0 (Row wr w0.heap.size h D) ∧ Aside0 (Below w0.heap.size w0 wr)) (fun _ v42 _ => 32 - (intOf v42).toNat)
  case atStart => exact ⟨0, 0, b, b, by decide, by decide, rfl, rfl, ⟨InvC.start HO.out f⟩, ⟨InvD.start HO.out f⟩, HRC, HRD, HB10⟩
  case round =>
    obtain ⟨i, t, C, D, hi, ht, rfl, rfl, HIC, HID, HRc, HRd, HBi⟩ := hrel
    clear HRC HRD HB10
    by_cases hlt : i < 32
    · have di : decide ((i : Int) < 32) = true := decide_eq_true (by omega)
      have e9 : IntKind.i64.wrap ((f : Int) + (i : Int)) = (f : Int) + (i : Int) := by rw [IntKind.wrap_i64]; omega
      by_cases hk : f + i < 8 * b.length
      · have dk : decide (8 * (b.length : Int) ≤ (f : Int) + (i : Int)) = false := decide_eq_false (by omega)
        have hk' : (8 * (b.length : Int) ≤ (f : Int) + (i : Int)) = False := by simp; omega
        have HK := Aside0.mk (And.intro hk hlt)
        obtain ⟨q, hq⟩ : ∃ q : Nat, (f + i) / 8 = q := ⟨_, rfl⟩
        obtain ⟨j, hj⟩ : ∃ j : Nat, (f + i) % 8 = j := ⟨_, rfl⟩
        have e11 : Int.tdiv ((f : Int) + (i : Int)) 8 = (q : Int) := by rw [Int.tdiv_eq_ediv_of_nonneg (by omega)]; omega
        have e12 : Int.tmod ((f : Int) + (i : Int)) 8 = (j : Int) := by rw [Int.tmod_eq_emod_of_nonneg (by omega)]; omega
        have e11' : IntKind.i64.wrap (q : Int) = (q : Int) := by rw [IntKind.wrap_i64]; omega
        have hqC : q < C.length := by have := HIC.out.len; omega
        have hqD : q < D.length := by have := HID.out.len; omega
        have hqb : q < b.length := by omega
        have hj8 : j < 8 := by omega
        obtain ⟨s, hs⟩ : ∃ s : Nat, 7 - j = s := ⟨_, rfl⟩
        have hs8 : s < 8 := by omega
        have e13 : IntKind.i64.wrap (7 - (j : Int)) = (s : Int) := by rw [IntKind.wrap_i64]; omega
        have hcC := HRc.out.at_ q hqC
        have hfC := HRc.out.frozen q
        obtain ⟨x, hx⟩ : ∃ x, C.getD q 0 = x := ⟨_, rfl⟩
        obtain ⟨y, hy⟩ : ∃ y, D.getD q 0 = y := ⟨_, rfl⟩
        rw [hx] at hcC
        have hx0 := getD_oct HIC.out.oct q
        have hy0 := getD_oct HID.out.oct q
        rw [hx] at hx0
        rw [hy] at hy0
        have HX := Aside0.mk (xor8 x j hx0 hj8)
        have HY := Aside0.mk (xor8 y s hy0 (by omega))
        have HIC' := Aside0.mk (show InvC b f (i + 1) (C.set q (fb x j)) from by
          have := HIC.out.flip hk
          rw [hq, hj] at this
          unfold flipB at this
          rw [hx] at this
          exact this)
        have HID' := Aside0.mk (show i < 16 → InvD b f (i + 1) (t + 1) (D.set q (fb y s)) from fun h16 => by
          have := HID.out.flip hk h16
          rw [hq, hj, hs] at this
          unfold flipB at this
          rw [hy] at this
          exact this)
        have HQD := Aside0.mk hqD
        have HQC := Aside0.mk hqC
        have HYD := Aside0.mk hy
        have HXI := Aside0.mk hlt
        clear hk hlt hq hj hx hy hx0 hy0 hs hqC hqD
        go_wp2_with fail
        · go_roundw
          case rel => exact ⟨i + 1, t, C, D, by have := HXI.out; omega, by omega, by go_num, rfl, ⟨HIC.out.skip⟩, ⟨HID.out.skip⟩, HRc, HRd, HBi⟩
          case measure => have := HXI.out; simp [intOf]; omega
        · go_region
          rw [HX.out]
          have HRc2 := Aside0.mk (show Row (wr.setCell ⟨g, q, none⟩ (.int .u8 (fb x j))).drew w0.heap.size g (C.set q (fb x j)) from (HRc.out.set_ q HQC.out (fb x j)).keep rfl)
          have HRd2 := Aside0.mk (show Row (wr.setCell ⟨g, q, none⟩ (.int .u8 (fb x j))).drew w0.heap.size h D from (HRd.out.far (p := ⟨g, q, none⟩) (fun e => HGH.out e.symm) (.int .u8 (fb x j))).keep rfl)
          have HB2 := Aside0.mk (show Below w0.heap.size w0 (wr.setCell ⟨g, q, none⟩ (.int .u8 (fb x j))).drew from below_drew (below_set HBi.out HRc.out.ge))
          generalize (wr.setCell ⟨g, q, none⟩ (.int .u8 (fb x j))).drew = wx at HRc2 HRd2 HB2 ⊢
          clear hcC hfC HRc HRd HBi
          by_cases h16 : i < 16
          · have d16 : decide ((i : Int) < 16) = true := decide_eq_true (by omega)
            have hcD := HRd2.out.at_ q HQD.out
            have hfD := HRd2.out.frozen q
            rw [HYD.out] at hcD
            clear h16
            go_wp2_with fail
            go_region
            rw [HY.out]
            have HRd3 := Aside0.mk (show Row (wx.setCell ⟨h, q, none⟩ (.int .u8 (fb y s))).drew w0.heap.size h (D.set q (fb y s)) from (HRd2.out.set_ q HQD.out (fb y s)).keep rfl)
            have HRc3 := Aside0.mk (show Row (wx.setCell ⟨h, q, none⟩ (.int .u8 (fb y s))).drew w0.heap.size g (C.set q (fb x j)) from (HRc2.out.far (p := ⟨h, q, none⟩) HGH.out (.int .u8 (fb y s))).keep rfl)
            have HB3 := Aside0.mk (show Below w0.heap.size w0 (wx.setCell ⟨h, q, none⟩ (.int .u8 (fb y s))).drew from below_drew (below_set HB2.out HRd2.out.ge))
            generalize (wx.setCell ⟨h, q, none⟩ (.int .u8 (fb y s))).drew = wy at HRc3 HRd3 HB3 ⊢
            clear hcD hfD HRc2 HRd2 HB2
            go_wp2_with fail
            go_roundw
            case rel => exact ⟨i + 1, t + 1, C.set q (fb x j), D.set q (fb y s), by have := HXI.out; omega, by omega, by go_num, by go_num, HIC', ⟨HID'.out (by have := of_decide_eq_true d16; omega)⟩, HRc3, HRd3, HB3⟩
            case measure => have := HXI.out; simp [intOf]; omega
          · have d16 : decide ((i : Int) < 16) = false := decide_eq_false (by omega)
            clear h16
            go_wp2_with fail
            go_roundw
            case rel => exact ⟨i + 1, t, C.set q (fb x j), D, by have := HXI.out; omega, by omega, by go_num, rfl, HIC', ⟨HID.out.skip⟩, HRc2, HRd2, HB2⟩
            case measure => have := HXI.out; simp [intOf]; omega
      · have dk : decide (8 * (b.length : Int) ≤ (f : Int) + (i : Int)) = true := decide_eq_true (by omega)
        have hk' : (8 * (b.length : Int) ≤ (f : Int) + (i : Int)) = True := by simp; omega
        clear hk
        go_wp2_with fail
        go_roundw
        case rel => exact ⟨i + 1, t, C, D, by omega, by omega, by go_num, rfl, ⟨HIC.out.skip⟩, ⟨HID.out.skip⟩, HRc, HRd, HBi⟩
        case measure => simp [intOf]; omega
    · obtain rfl : i = 32 := by omega
      have hoC := HIC.out.oct
      have hoD := HID.out.oct
      have ho := HO.out
      have hlC := HIC.out.len
      have hlD := HID.out.len
      obtain ⟨k1, q1⟩ := sum32_f [C] (fun xs hx => by obtain rfl : xs = C := by simpa using hx
                                                      exact ⟨hoC, by omega⟩) (by simp)
      obtain ⟨k2, q2⟩ := sum32_f [b] (fun xs hx => by obtain rfl : xs = b := by simpa using hx
                                                      exact ⟨ho, by omega⟩) (by simp)
      obtain ⟨k3, q3⟩ := sum16_f [D] (fun xs hx => by obtain rfl : xs = D := by simpa using hx
                                                      exact ⟨hoD, by omega⟩) (by simp)
      obtain ⟨k4, q4⟩ := sum16_f [b] (fun xs hx => by obtain rfl : xs = b := by simpa using hx
                                                      exact ⟨ho, by omega⟩) (by simp)
      have Q1 := Aside0.mk (q1 k1 (Nat.le_refl _))
      have Q2 := Aside0.mk (q2 k2 (Nat.le_refl _))
      have Q3 := Aside0.mk (q3 k3 (Nat.le_refl _))
      have Q4 := Aside0.mk (q4 k4 (Nat.le_refl _))
      rw [show [C].flatten = C from by simp] at Q1
      rw [show [b].flatten = b from by simp] at Q2 Q4
      rw [show [D].flatten = D from by simp] at Q3
      have HT1 := Aside0.mk (fun hne => HIC.out.told ho hne)
      have HT2 := Aside0.mk (fun ht0 => HID.out.told ho ht0)
      have HZ := Aside0.mk (HID.out.zero)
      have HCC1 := HRc.out.C (by omega)
      rw [hlC] at HCC1
      have HCD1 := HRd.out.C (by omega)
      rw [hlD] at HCD1
      have HKC := Aside0.mk HCC1
      have HKD := Aside0.mk HCD1
      have HKb := Aside0.mk (Kd.C_below HC.out HBi.out)
      have HOC := Aside0.mk (And.intro hoC (And.intro hoD (And.intro hlC hlD)))
      have hcv1 := Kd.C_string (P := Try.prog) (A := some ⟨g, 0, none⟩) (c := cg) Try.underlying41 Try.underlying5 Try.underlying9 HKC.out
      have hcv2 := Kd.C_string (P := Try.prog) (A := A) (c := c) Try.underlying41 Try.underlying5 Try.underlying9 HKb.out
      clear q1 q2 q3 q4 hoC hoD ho hlC hlD HCC1 HCD1 HIC HID HRc HRd
      generalize S32 C = s1 at Q1 HT1
      generalize S32 b = s2 at Q2 HT1
      generalize S16 D = s3 at Q3 HT2
      generalize S16 b = s4 at Q4 HT2
      by_cases hCb : C = b
      · have hst : ((strOfNums C).toList = (strOfNums b).toList) = True := eq_true (by rw [hCb])
        have HBz := Aside0.mk (Below.refl wr.heap.size wr)
        clear hCb
        by_cases ht0 : t = 0
        · subst ht0
          have hDb := HZ.out rfl
          have hst2 : ((strOfNums D).toList = (strOfNums b).toList) = True := eq_true (by rw [hDb])
          clear hDb
          have hcv3 := Kd.C_string (P := Try.prog) (A := some ⟨h, 0, none⟩) (c := ch) Try.underlying41 Try.underlying5 Try.underlying9 (Kd.C_below HKD.out HBz.out)
          have hcv4 := Kd.C_string (P := Try.prog) (A := A) (c := c) Try.underlying41 Try.underlying5 Try.underlying9 (Kd.C_below HKb.out HBz.out)
          go_wp2_with fail
          go_ret
          exact ⟨rfl, below_then HBi.out HBi.out.size HBz.out⟩
        · have dt0 : ((t : Int) == 0) = false := by rw [beq_eq_false_iff_ne]; omega
          have dt1 : (t = 0) = False := eq_false ht0
          have hne := HT2.out (by omega)
          have dne : (s3 != s4) = true := by rw [bne_iff_ne]; exact hne
          have dne2 : (s3 = s4) = False := eq_false hne
          clear hne
          go_wp2_with fail
          refine (crc_Sum16.calls k3 (some ⟨_, 0, none⟩) 1 [D] s3 _ (row1 D (by rw [HOC.out.2.2.2, Mem.cell_new]; rfl) (by rw [HOC.out.2.2.2]; exact HCG.out.2) (by rw [HOC.out.2.2.2]; exact Kd.C_below HKD.out (below_alloc HBz.out _))) (Nat.le_refl _) Q3.out).mono ?_
          rintro e wq ⟨rfl, hb⟩
          have HBq := Aside0.mk (below_then (below_alloc HBz.out _) (below_alloc HBz.out _).size hb.below)
          clear hb
          go_wp2_with fail
          refine (crc_Sum16.calls k4 (some ⟨_, 0, none⟩) 1 [b] s4 _ (row1 b (by rw [Mem.cell_new]; rfl) HCC.out (Kd.C_below HKb.out (below_alloc HBq.out _))) (Nat.le_refl _) Q4.out).mono ?_
          rintro e wt ⟨rfl, hb⟩
          have HBt := Aside0.mk (below_then (below_alloc HBq.out _) (below_alloc HBq.out _).size hb.below)
          clear hb
          go_wp2_with fail
          go_ret
          exact ⟨rfl, below_then HBi.out HBi.out.size HBt.out⟩
      · have hst : ((strOfNums C).toList = (strOfNums b).toList) = False := eq_false (fun e => hCb (str_inj HOC.out.1 HO.out (toList_inj e)))
        have hne1 := HT1.out hCb
        have dn1 : (s1 == s2) = false := by rw [beq_eq_false_iff_ne]; exact hne1
        have dn2 : (s1 = s2) = False := eq_false hne1
        clear hCb hne1
        go_wp2_with fail
        refine (crc_Sum32.calls k1 (some ⟨_, 0, none⟩) 1 [C] s1 _ (row1 C (by rw [HOC.out.2.2.1, Mem.cell_new]; rfl) (by rw [HOC.out.2.2.1]; exact HCG.out.1) (by rw [HOC.out.2.2.1]; exact Kd.C_below HKC.out (below_alloc (Below.refl _ _) _))) (Nat.le_refl _) Q1.out).mono ?_
        rintro e wu ⟨rfl, hb⟩
        have HBu := Aside0.mk (below_then (below_alloc (Below.refl _ _) _) (below_alloc (Below.refl wr.heap.size wr) _).size hb.below)
        clear hb
        go_wp2_with fail
        refine (crc_Sum32.calls k2 (some ⟨_, 0, none⟩) 1 [b] s2 _ (row1 b (by rw [Mem.cell_new]; rfl) HCC.out (Kd.C_below HKb.out (below_alloc HBu.out _))) (Nat.le_refl _) Q2.out).mono ?_
        rintro e wz ⟨rfl, hb⟩
        have HBz := Aside0.mk (below_then (below_alloc HBu.out _) (below_alloc HBu.out _).size hb.below)
        clear hb HBu
        by_cases ht0 : t = 0
        · subst ht0
          have hDb := HZ.out rfl
          have hst2 : ((strOfNums D).toList = (strOfNums b).toList) = True := eq_true (by rw [hDb])
          clear hDb
          have hcv3 := Kd.C_string (P := Try.prog) (A := some ⟨h, 0, none⟩) (c := ch) Try.underlying41 Try.underlying5 Try.underlying9 (Kd.C_below HKD.out HBz.out)
          have hcv4 := Kd.C_string (P := Try.prog) (A := A) (c := c) Try.underlying41 Try.underlying5 Try.underlying9 (Kd.C_below HKb.out HBz.out)
          go_wp2_with fail
          go_ret
          exact ⟨rfl, below_then HBi.out HBi.out.size HBz.out⟩
        · have dt0 : ((t : Int) == 0) = false := by rw [beq_eq_false_iff_ne]; omega
          have dt1 : (t = 0) = False := eq_false ht0
          have hne := HT2.out (by omega)
          have dne : (s3 != s4) = true := by rw [bne_iff_ne]; exact hne
          have dne2 : (s3 = s4) = False := eq_false hne
          clear hne
          go_wp2_with fail
          refine (crc_Sum16.calls k3 (some ⟨_, 0, none⟩) 1 [D] s3 _ (row1 D (by rw [HOC.out.2.2.2, Mem.cell_new]; rfl) (by rw [HOC.out.2.2.2]; exact HCG.out.2) (by rw [HOC.out.2.2.2]; exact Kd.C_below HKD.out (below_alloc HBz.out _))) (Nat.le_refl _) Q3.out).mono ?_
          rintro e wq ⟨rfl, hb⟩
          have HBq := Aside0.mk (below_then (below_alloc HBz.out _) (below_alloc HBz.out _).size hb.below)
          clear hb
          go_wp2_with fail
          refine (crc_Sum16.calls k4 (some ⟨_, 0, none⟩) 1 [b] s4 _ (row1 b (by rw [Mem.cell_new]; rfl) HCC.out (Kd.C_below HKb.out (below_alloc HBq.out _))) (Nat.le_refl _) Q4.out).mono ?_
          rintro e wt ⟨rfl, hb⟩
          have HBt := Aside0.mk (below_then (below_alloc HBq.out _) (below_alloc HBq.out _).size hb.below)
          clear hb
          go_wp2_with fail
          go_ret
          exact ⟨rfl, below_then HBi.out HBi.out.size HBt.out⟩
theorem bursts_all (w0 : World) (A : Option Addr) (c : Nat) (b : List Int) (at_ mask : Int) (hC : Kd.C (Kd.int .u8) w0 A b.length b) (hc : b.length ≤ c) (ho : ∀ x ∈ b, 0 ≤ x ∧ x < 256) (ha : 0 ≤ at_ ∧ at_ < 65536) (hm : 0 ≤ mask ∧ mask < 4294967296) :
    Calls Try.prog 7 #[.slice A b.length c, .int .u16 at_, .int .u32 mask] w0 fun e w' => e = .returned (.bool true) ∧ Below w0.heap.size w0 w' := by
  by_cases h : b.length = 0 ∨ 200 < b.length ∨ mask = 0
  · exact bursts_none w0 A c b at_ mask h
  · exact bursts_short w0 A c b at_ mask (by omega) (by omega) hC hc ho ha (by omega)
end Go.Proofs.Ytdcljkdbdjbjiaa.Cb
