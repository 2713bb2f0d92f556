-- Laid by a program of this session (wip/tools), out of the translation; proved by Lean.
import Derived.Test.YtfkfpeiocdjniaaPAllx0
import Derived.Test.YtfkfpeiocdjniaaPAllx4
namespace Go.Proofs.Ytfkfpeiocdjniaa.PAll
open Go.RowKit Go.Proofs.YtfkfpeiocdjniaaW.PrintWords Go.Proofs.YtfkfpeiocdjniaaW.PrintLast Go.Proofs.YtfkfpeiocdjniaaW.PrintMore
attribute [local go_sem] max2_int min2_int max_two min_two max_three min_three max_four min_four   -- for this text's walks alone
set_option linter.unusedVariables false
set_option linter.unusedSimpArgs false

/-! ### slices_Equal_byte_byte: function 30 -/
def slices_Equal_byte_byte.l0 : Nat → List Int → List Int → Int → Int → Option (Bool)
  | 0, _, _, _, _ => none
  | k + 1, x0, x1, x12, x13 => if x13 < x12 then (if 0 ≤ x13 then (if x13 < (x0.length : Int) then (if x13 < (x1.length : Int) then (if (rd x0 x13) = (rd x1 x13) then (slices_Equal_byte_byte.l0 k x0 x1 x12 (wrap64 (x13 + 1))) else (some false)) else (none)) else (none)) else (none)) else (some true)
def slices_Equal_byte_byte.f (k : Nat) (l0 : List Int) (l1 : List Int) : Option (Bool) := if (l0.length : Int) = (l1.length : Int) then (slices_Equal_byte_byte.l0 k l0 l1 (l0.length : Int) 0) else (some false)
theorem slices_Equal_byte_byte.mono_l : ∀ k, (∀ y0 y1 y2 y3, LeO (slices_Equal_byte_byte.l0 k y0 y1 y2 y3) (slices_Equal_byte_byte.l0 (k + 1) y0 y1 y2 y3))
  | 0 => fun _ _ _ _ r h => by simp [slices_Equal_byte_byte.l0] at h
  | k + 1 => by
    have ih0 := slices_Equal_byte_byte.mono_l k
    · intro y0 y1 y2 y3
      unfold slices_Equal_byte_byte.l0
      repeat' first
      | (with_reducible exact ih0 _ _ _ _)
      | (with_reducible exact LeO.refl _)
      | (with_reducible exact LeO.none _)
      | (with_reducible refine LeO.ite ?_ ?_)
      | (with_reducible refine LeO.bind ?_ (fun _ => ?_))
      | exact ih0 _ _ _ _
      | exact LeO.none _
      | refine LeO.ite ?_ ?_
      | refine LeO.bind ?_ (fun _ => ?_)
theorem slices_Equal_byte_byte.mono : ∀ a0 a1 k, LeO (slices_Equal_byte_byte.f k a0 a1) (slices_Equal_byte_byte.f (k + 1) a0 a1) := by
  intro a0 a1 k
  have ih0 := slices_Equal_byte_byte.mono_l k
  unfold slices_Equal_byte_byte.f
  repeat' first
      | (with_reducible exact ih0 _ _ _ _)
      | (with_reducible exact LeO.refl _)
      | (with_reducible exact LeO.none _)
      | (with_reducible refine LeO.ite ?_ ?_)
      | (with_reducible refine LeO.bind ?_ (fun _ => ?_))
      | exact ih0 _ _ _ _
      | exact LeO.none _
      | refine LeO.ite ?_ ?_
      | refine LeO.bind ?_ (fun _ => ?_)
set_option maxHeartbeats 8000000 in
set_option maxRecDepth 100000 in
theorem slices_Equal_byte_byte.calls (k : Nat) (A0 : Option Addr) (c0 : Nat) (l0 : List Int) (A1 : Option Addr) (c1 : Nat) (l1 : List Int) (r : Bool) (w : World) (hr0 : Kd.C (Kd.int .u8) w A0 l0.length l0) (hc0 : l0.length ≤ c0) (hr1 : Kd.C (Kd.int .u8) w A1 l1.length l1) (hc1 : l1.length ≤ c1) (h : slices_Equal_byte_byte.f k l0 l1 = some r) :
    Calls Try.prog 30 #[.slice A0 l0.length c0, .slice A1 l1.length c1] w fun e w' => e = .returned (.bool r) ∧ Drawn0 w w' := by
  have HR0 := Aside0.mk hr0
  have HC0 := Aside0.mk hc0
  clear hr0 hc0
  have HR1 := Aside0.mk hr1
  have HC1 := Aside0.mk hc1
  clear hr1 hc1
  have H : (if (l0.length : Int) = (l1.length : Int) then (slices_Equal_byte_byte.l0 k l0 l1 (l0.length : Int) 0) else (some false)) = some r := h
  clear h
  by_cases c3 : (l0.length : Int) = (l1.length : Int)
  · rw [if_pos c3] at H
    have c3b0 : ((l0.length : Int) == (l1.length : Int)) = true := beq_iff_eq.mpr c3
    have c3b1 : ((l0.length : Int) != (l1.length : Int)) = false := bne_eq_false_iff_eq.mpr c3
    have c3b2 : (l0.length == l1.length) = true := by first | simpa using c3 | (simp at c3 ⊢; omega)
    clear c3
    have H' := Aside0.mk H
    clear H
    go_enter Try.func30, Try.ntmps30
    go_wp2
    repeat (go_quiet (fail); try go_wp2)
    go_loopg [13] k (fun kq v13 w' => ∃ (x13_1 : Int), v13 = .int .i64 x13_1 ∧ Aside0 (slices_Equal_byte_byte.l0 kq l0 l1 (l0.length : Int) x13_1 = some r) ∧ Aside0 (kq ≤ k) ∧ Drawn0 w w')
    case atStart => exact ⟨(0), (by first | rfl | (simp; done) | (simp [*]; done)), H', ⟨Nat.le_refl _⟩, by repeat (first | exact Drawn0.refl _ | apply Drawn0.step)⟩
    case round =>
      clear H'
      try clear c1
      try clear p2
      try clear c3
      try clear c3b0
      try clear c3b1
      try clear c3b2
      obtain ⟨x13_1, rfl, HA, HK1, ⟨m1, rfl⟩⟩ := hrel
      cases gk with
      | zero => exact absurd HA.out (by simp [slices_Equal_byte_byte.l0])
      | succ k1 =>
        have H := HA.out
        clear HA
        simp only [slices_Equal_byte_byte.l0] at H
        by_cases c4 : x13_1 < (l0.length : Int)
        · rw [if_pos c4] at H
          have c4b0 : decide (x13_1 < (l0.length : Int)) = true := decide_eq_true c4
          clear c4
          by_cases c5 : 0 ≤ x13_1
          · rw [if_pos c5] at H
            have c5b0 : decide (0 ≤ x13_1) = true := decide_eq_true c5
            clear c5
            by_cases c6 : x13_1 < (l0.length : Int)
            · rw [if_pos c6] at H
              have c6b0 : decide (x13_1 < (l0.length : Int)) = true := decide_eq_true c6
              clear c6
              by_cases c7 : x13_1 < (l1.length : Int)
              · rw [if_pos c7] at H
                have c7b0 : decide (x13_1 < (l1.length : Int)) = true := decide_eq_true c7
                clear c7
                by_cases c8 : (rd l0 x13_1) = (rd l1 x13_1)
                · rw [if_pos c8] at H
                  have c8b0 : ((rd l0 x13_1) == (rd l1 x13_1)) = true := beq_iff_eq.mpr c8
                  have c8b1 : ((rd l0 x13_1) != (rd l1 x13_1)) = false := bne_eq_false_iff_eq.mpr c8
                  clear c8
                  have H' := Aside0.mk H
                  clear H
                  have p119 : 0 ≤ (x13_1 : Int) := of_decide_eq_true (by first | (with_reducible assumption) | assumption)
                  have q119 : x13_1 < (l0.length : Int) := of_decide_eq_true (by first | (with_reducible assumption) | assumption)
                  obtain ⟨ad119, e119, hx119_0⟩ := Kd.at_int HR0.out x13_1 p119 q119
                  cases e119
                  replace p119 := eq_true p119
                  replace q119 := eq_true q119
                  have p120 : 0 ≤ (x13_1 : Int) := of_decide_eq_true (by first | (with_reducible assumption) | assumption)
                  have q120 : x13_1 < (l1.length : Int) := of_decide_eq_true (by first | (with_reducible assumption) | assumption)
                  obtain ⟨ad120, e120, hx120_0⟩ := Kd.at_int HR1.out x13_1 p120 q120
                  cases e120
                  replace p120 := eq_true p120
                  replace q120 := eq_true q120
                  go_wp2
                  repeat (go_quiet (fail); try go_wp2)
                  go_roundg k1
                  case measure => have := HK1.out; omega
                  case rel => exact ⟨(wrap64 (x13_1 + 1)), (by first | rfl | (simp; done) | (simp [*]; done)), H', ⟨by have := HK1.out; omega⟩, by repeat (first | exact Drawn0.refl _ | apply Drawn0.step)⟩
                · rw [if_neg c8] at H
                  have c8b0 : ((rd l0 x13_1) == (rd l1 x13_1)) = false := beq_eq_false_iff_ne.mpr c8
                  have c8b1 : ((rd l0 x13_1) != (rd l1 x13_1)) = true := bne_iff_ne.mpr c8
                  obtain rfl := Option.some.inj H
                  have p119 : 0 ≤ (x13_1 : Int) := of_decide_eq_true (by first | (with_reducible assumption) | assumption)
                  have q119 : x13_1 < (l0.length : Int) := of_decide_eq_true (by first | (with_reducible assumption) | assumption)
                  obtain ⟨ad119, e119, hx119_0⟩ := Kd.at_int HR0.out x13_1 p119 q119
                  cases e119
                  replace p119 := eq_true p119
                  replace q119 := eq_true q119
                  have p120 : 0 ≤ (x13_1 : Int) := of_decide_eq_true (by first | (with_reducible assumption) | assumption)
                  have q120 : x13_1 < (l1.length : Int) := of_decide_eq_true (by first | (with_reducible assumption) | assumption)
                  obtain ⟨ad120, e120, hx120_0⟩ := Kd.at_int HR1.out x13_1 p120 q120
                  cases e120
                  replace p120 := eq_true p120
                  replace q120 := eq_true q120
                  go_wp2
                  repeat (go_quiet (fail); try go_wp2)
                  go_ret
                  exact ⟨by first | rfl | (simp; done) | (simp [*]; done), by repeat (first | exact Drawn0.refl _ | apply Drawn0.step)⟩
              · rw [if_neg c7] at H
                exact absurd H (by simp)
            · rw [if_neg c6] at H
              exact absurd H (by simp)
          · rw [if_neg c5] at H
            exact absurd H (by simp)
        · rw [if_neg c4] at H
          have c4b0 : decide (x13_1 < (l0.length : Int)) = false := decide_eq_false c4
          clear c4
          obtain rfl := Option.some.inj H
          go_wp2
          repeat (go_quiet (fail); try go_wp2)
          go_ret
          exact ⟨by first | rfl | (simp; done) | (simp [*]; done), by repeat (first | exact Drawn0.refl _ | apply Drawn0.step)⟩
  · rw [if_neg c3] at H
    have c3b0 : ((l0.length : Int) == (l1.length : Int)) = false := beq_eq_false_iff_ne.mpr c3
    have c3b1 : ((l0.length : Int) != (l1.length : Int)) = true := bne_iff_ne.mpr c3
    have c3b2 : (l0.length == l1.length) = false := by first | simpa using c3 | (simp at c3 ⊢; omega)
    obtain rfl := Option.some.inj H
    go_enter Try.func30, Try.ntmps30
    go_wp2
    repeat (go_quiet (fail); try go_wp2)
    go_ret
    exact ⟨by first | rfl | (simp; done) | (simp [*]; done), by repeat (first | exact Drawn0.refl _ | apply Drawn0.step)⟩

def wfb (l : List Int) : Bool := l.all fun x => decide (0 ≤ x) && decide (x < 256)
theorem wfb_of {l : List Int} (h : ∀ x ∈ l, 0 ≤ x ∧ x < 256) : wfb l = true := by
  unfold wfb; rw [List.all_eq_true]; intro x hx; simp [h x hx]
theorem of_wfb {l : List Int} (h : wfb l = true) : ∀ x ∈ l, 0 ≤ x ∧ x < 256 := by
  unfold wfb at h; rw [List.all_eq_true] at h; intro x hx; simpa using h x hx
theorem wfb_rd {l : List Int} (h : wfb l = true) (i : Nat) (hi : i < l.length) : 0 ≤ rd l (i : Int) ∧ rd l (i : Int) < 256 := by
  have : rd l (i : Int) = l[i] := by unfold rd; simp [hi]
  rw [this]; exact of_wfb h _ (List.getElem_mem hi)
def nmOf (l : List Int) : ByteArray := strOfNums ((l.take (4 + (rd l 2).toNat)).drop 4)
def inoOf (l : List Int) : Int := rd l 0 + 256 * rd l 1
def entry_Decode.f (k : Nat) (l0 : List Int) : Option (ByteArray × Int × Int) :=
  if wfb l0 = true then (if l0.length = 64 ∧ rd l0 2 ≤ 48 then (entry_Encode.f k (nmOf l0) (inoOf l0)).bind fun t => if t.2 = 0 then (slices_Equal_byte_byte.f k t.1 l0).bind fun q => (if q = true then some (nmOf l0, inoOf l0, 0) else some ((⟨#[]⟩ : ByteArray), 0, 2)) else some ((⟨#[]⟩ : ByteArray), 0, 2) else some ((⟨#[]⟩ : ByteArray), 0, 2)) else none
theorem entry_Decode.mono : ∀ a0 k, LeO (entry_Decode.f k a0) (entry_Decode.f (k + 1) a0) := by
  intro a0 k
  unfold entry_Decode.f
  refine LeO.ite ?_ (LeO.refl _)
  refine LeO.ite ?_ (LeO.refl _)
  refine LeO.bind (entry_Encode.mono _ _ _) (fun t => ?_)
  refine LeO.ite ?_ (LeO.refl _)
  exact LeO.bind (slices_Equal_byte_byte.mono _ _ _) (fun _ => LeO.refl _)
/-- Behind the noughting of the result's cells. -/
theorem dec_none_ret {W : World} {r : Nat} (h : W.heap[r]? = some (.cells #[.string (⟨#[]⟩ : ByteArray), .int .i64 0] 33 (0, 0))) : ((W.setCell ⟨r, 0, none⟩ (.string (⟨#[]⟩ : ByteArray))).setCell ⟨r, 1, none⟩ (.int .i64 0)).heap[r]? = some (.cells #[.string (⟨#[]⟩ : ByteArray), .int .i64 0] 33 (0, 0)) := blk_put (blk_put h 0 _ rfl) 1 _ rfl
set_option maxRecDepth 100000 in
set_option maxHeartbeats 8000000 in
theorem dec_long (A0 : Option Addr) (c0 n : Nat) (w0 : World) (hn : n ≠ 64) :
    Calls Try.prog 21 #[.slice A0 n c0] w0 fun e w' => e = .returned (.tuple #[.agg #[.string (⟨#[]⟩ : ByteArray), .int .i64 0], .int .i64 2]) ∧ Below w0.heap.size w0 w' := by
  have d1 : ((n : Int) == 64) = false := beq_eq_false_iff_ne.mpr (by omega)
  have d2 : ((n : Int) != 64) = true := bne_iff_ne.mpr (by omega)
  clear hn
  go_enter Try.func21, Try.ntmps21
  go_upto_region 1 with fail
  have HXr := Aside0.mk (heap_alloc_new w0 (.cells #[.string (⟨#[]⟩ : ByteArray), .int .i64 0] 33))
  clear d1
  have HGE := Aside0.mk (Nat.le_refl w0.heap.size)
  have HB1 := Aside0.mk (below_alloc (Below.refl w0.heap.size w0) (.cells #[.string (⟨#[]⟩ : ByteArray), .int .i64 0] 33))
  obtain ⟨r, hr⟩ : ∃ r, r = w0.heap.size := ⟨_, rfl⟩
  have HGE : Aside0 (w0.heap.size ≤ r) := ⟨Nat.le_of_eq hr.symm⟩
  rw [← hr] at HXr
  have hp : Value.pointer (some ⟨w0.heap.size, 0, none⟩) = Value.pointer (some ⟨r, 0, none⟩) := by rw [hr]
  rw [hp]
  clear hp hr
  generalize w0.alloc (.cells #[.string (⟨#[]⟩ : ByteArray), .int .i64 0] 33) = w1 at HXr HB1 ⊢
  have hcz0 : w1.cell? ⟨r, 0, none⟩ = some (.string (⟨#[]⟩ : ByteArray)) := (blk_cell HXr.out 0).trans rfl
  have hcz1 : w1.cell? ⟨r, 1, none⟩ = some (.int .i64 0) := (blk_cell HXr.out 1).trans rfl
  have hfz0 := blk_frozen HXr.out 0
  have hfz1 := blk_frozen HXr.out 1
  go_wp2_with fail
  refine bodyPost_ret (results_ct rfl _ _ r 33 #[.string (⟨#[]⟩ : ByteArray), .int .i64 0] (0, 0) _ rfl (dec_none_ret HXr.out) Try.underlying33 rfl (by kernel_rfl)) rfl ?_
  exact ⟨rfl, (HB1.out.setCell HGE.out _).setCell HGE.out _⟩
set_option maxRecDepth 100000 in
set_option maxHeartbeats 8000000 in
theorem dec_48 (A0 : Option Addr) (c0 : Nat) (l0 : List Int) (w0 : World) (hr0 : Kd.C (Kd.int .u8) w0 A0 l0.length l0) (hl : l0.length = 64) (hw : wfb l0 = true) (h48 : 48 < rd l0 2) :
    Calls Try.prog 21 #[.slice A0 64 c0] w0 fun e w' => e = .returned (.tuple #[.agg #[.string (⟨#[]⟩ : ByteArray), .int .i64 0], .int .i64 2]) ∧ Below w0.heap.size w0 w' := by
  have hx := wfb_rd hw 2 (by omega)
  obtain ⟨ad, rfl, h2⟩ := Kd.at_int hr0 2 (by decide) (by omega)
  rw [show (rd l0 2) = rd l0 ((2 : Nat) : Int) from rfl] at h2 h48
  obtain ⟨x2, hx2⟩ : ∃ x, x = rd l0 ((2 : Nat) : Int) := ⟨_, rfl⟩
  rw [← hx2] at hx h48 h2
  simp only [show (2 : Int).toNat = 2 from rfl, Go.Addr.add, Nat.reduceEqDiff, ↓reduceIte] at h2
  have H2 := Aside0.mk h2
  have hwr : IntKind.i64.wrap x2 = x2 := by rw [i64_w]; exact Math.w64 (by omega) (by omega)
  have d1 : decide (48 < x2) = true := decide_eq_true h48
  have d2 : decide (x2 > 48) = true := decide_eq_true h48
  clear hr0 hl hw h48 hx hx2 h2
  go_enter Try.func21, Try.ntmps21
  go_upto_region 1 with fail
  have HXr := Aside0.mk (heap_alloc_new w0 (.cells #[.string (⟨#[]⟩ : ByteArray), .int .i64 0] 33))
  have HB1 := Aside0.mk (below_alloc (Below.refl w0.heap.size w0) (.cells #[.string (⟨#[]⟩ : ByteArray), .int .i64 0] 33))
  obtain ⟨r, hr⟩ : ∃ r, r = w0.heap.size := ⟨_, rfl⟩
  have HGE : Aside0 (w0.heap.size ≤ r) := ⟨Nat.le_of_eq hr.symm⟩
  rw [← hr] at HXr
  have hp : Value.pointer (some ⟨w0.heap.size, 0, none⟩) = Value.pointer (some ⟨r, 0, none⟩) := by rw [hr]
  rw [hp]
  clear hp hr
  generalize w0.alloc (.cells #[.string (⟨#[]⟩ : ByteArray), .int .i64 0] 33) = w1 at HXr HB1 ⊢
  have q2 := (HB1.out.cell (World.block_lt_of_cell? w0 _ H2.out)).trans H2.out
  have hcz0 : w1.cell? ⟨r, 0, none⟩ = some (.string (⟨#[]⟩ : ByteArray)) := (blk_cell HXr.out 0).trans rfl
  have hcz1 : w1.cell? ⟨r, 1, none⟩ = some (.int .i64 0) := (blk_cell HXr.out 1).trans rfl
  have hfz0 := blk_frozen HXr.out 0
  have hfz1 := blk_frozen HXr.out 1
  go_wp2_with fail
  refine bodyPost_ret (results_ct rfl _ _ r 33 #[.string (⟨#[]⟩ : ByteArray), .int .i64 0] (0, 0) _ rfl (dec_none_ret HXr.out) Try.underlying33 rfl (by kernel_rfl)) rfl ?_
  exact ⟨rfl, (HB1.out.setCell HGE.out _).setCell HGE.out _⟩
theorem or_i64 (a b : Int) (ha : 0 ≤ a ∧ a < 256) (hb : 0 ≤ b ∧ b < 256) : Go.bits .or .i64 a (b * 256) = a + 256 * b := by
  obtain ⟨a, rfl⟩ := Int.eq_ofNat_of_zero_le ha.1
  obtain ⟨b, rfl⟩ := Int.eq_ofNat_of_zero_le hb.1
  have h1 : a < 2 ^ 8 := by omega
  have e : ((b : Int) * 256) = ((b * 256 : Nat) : Int) := by simp
  rw [e]
  have h2 : (a ||| b * 256) = a + 256 * b := by
    rw [show b * 256 = 2 ^ 8 * b by omega, Nat.or_comm, ← Nat.two_pow_add_eq_or_of_lt h1 b]; omega
  simp only [Go.bits, BitVec.ofInt_natCast, BitVec.toNat_or, BitVec.toNat_ofNat]
  show IntKind.i64.wrap (((a % 2 ^ 64 ||| b * 256 % 2 ^ 64 : Nat) : Int)) = _
  rw [Nat.mod_eq_of_lt (by omega), Nat.mod_eq_of_lt (by omega), h2, i64_w, Math.w64 (by omega) (by omega)]
  omega
theorem dec_cut (ad : Addr) (c0 : Nat) (l0 : List Int) (w0 : World) (hr0 : Kd.C (Kd.int .u8) w0 (some ad) l0.length l0) (hc0 : l0.length ≤ c0) (hl : l0.length = 64) (x2 : Int) (hx : x2 = rd l0 2) (h0 : 0 ≤ x2) (h1 : x2 ≤ 48) :
    ∃ (A : Option Addr) (n c : Nat), (∀ W : World, (Instr.slice 22 (.slice (some ad) 64 c0) (some (.int .i64 4)) (some (.int .i64 (4 + x2))) none).run Try.prog W = .ok (.slice A n c) W) ∧
      ∀ W : World, Below w0.heap.size w0 W → (convert 22 9 (.slice A n c)).run Try.prog W = .ok (.string (nmOf l0)) W := by
  obtain ⟨i, hi, _, hs, _⟩ := info_parts info5'
  refine ⟨_, _, _, cut_mid (P := Try.prog) 22 5 .i64 .i64 Try.underlying22 hi 1 hs (some ad) 64 c0 4 (4 + x2) (by decide) (by omega) (by omega) (by omega), fun W hW => ?_⟩
  have hmid := Kd.C_mid (k := Kd.int .u8) (lo := 4) (hi := 4 + (rd l0 2).toNat) hr0 (by omega) (by omega) hc0
  have e1 : (4 + x2).toNat - (4 : Int).toNat = ((l0.take (4 + (rd l0 2).toNat)).drop 4).length := by rw [List.length_drop, List.length_take]; omega
  rw [e1]
  exact Kd.C_string Try.underlying22 Try.underlying5 Try.underlying9 (Kd.C_below hmid hW)
set_option maxRecDepth 100000 in
set_option maxHeartbeats 8000000 in
theorem dec_main (k : Nat) (A0 : Option Addr) (c0 : Nat) (l0 : List Int) (w0 : World) (hr0 : Kd.C (Kd.int .u8) w0 A0 l0.length l0) (hc0 : l0.length ≤ c0) (hl : l0.length = 64) (hw : wfb l0 = true) (h48 : rd l0 2 ≤ 48) (b : List Int) (e2 : Int)
    (hen : entry_Encode.f k (nmOf l0) (inoOf l0) = some (b, e2)) (q : Bool) (hq : e2 = 0 → slices_Equal_byte_byte.f k b l0 = some q) (res : Array Value) (hres : res = if e2 = 0 ∧ q = true then #[.agg #[.string (nmOf l0), .int .i64 (inoOf l0)], .int .i64 0] else #[.agg #[.string (⟨#[]⟩ : ByteArray), .int .i64 0], .int .i64 2]) :
    Calls Try.prog 21 #[.slice A0 64 c0] w0 fun e w' => e = .returned (.tuple res) ∧ Below w0.heap.size w0 w' := by
  have hx0 := wfb_rd hw 0 (by omega)
  have hx1 := wfb_rd hw 1 (by omega)
  have hx2 := wfb_rd hw 2 (by omega)
  obtain ⟨ad, rfl, h0⟩ := Kd.at_int hr0 0 (by decide) (by omega)
  obtain ⟨ad', e', h1⟩ := Kd.at_int hr0 1 (by decide) (by omega)
  cases e'
  obtain ⟨ad', e', h2⟩ := Kd.at_int hr0 2 (by decide) (by omega)
  cases e'
  simp only [show (0 : Int).toNat = 0 from rfl, show (1 : Int).toNat = 1 from rfl, show (2 : Int).toNat = 2 from rfl, Go.Addr.add, Nat.reduceEqDiff, ↓reduceIte] at h0 h1 h2
  obtain ⟨A, n, c, hcut, hconv⟩ := dec_cut ad c0 l0 w0 hr0 hc0 hl (rd l0 2) rfl hx2.1 h48
  have hin : inoOf l0 = rd l0 0 + 256 * rd l0 1 := rfl
  have hx0' : 0 ≤ rd l0 0 ∧ rd l0 0 < 256 := hx0
  have hx1' : 0 ≤ rd l0 1 ∧ rd l0 1 < 256 := hx1
  have hx2' : 0 ≤ rd l0 2 ∧ rd l0 2 < 256 := hx2
  have hor := or_i64 (rd l0 0) (rd l0 1) hx0' hx1'
  rw [← hin] at hor
  clear hx0 hx1 hx2 hw hin
  have HEN := Aside0.mk hen
  have HEQ := Aside0.mk hq
  have HRS := Aside0.mk hres
  have HR := Aside0.mk hr0
  have HC := Aside0.mk hc0
  have HL := Aside0.mk hl
  clear hen hq hr0 hc0 hl hres
  generalize nmOf l0 = nm at *
  generalize inoOf l0 = ino at *
  generalize rd l0 0 = y0 at *
  generalize rd l0 1 = y1 at *
  generalize rd l0 2 = y2 at *
  have H0 := Aside0.mk h0
  have H1 := Aside0.mk h1
  have H2 := Aside0.mk h2
  have HCV := Aside0.mk hconv
  have hw0 : IntKind.i64.wrap y0 = y0 := by rw [i64_w]; exact Math.w64 (by omega) (by omega)
  have hw1 : IntKind.i64.wrap y1 = y1 := by rw [i64_w]; exact Math.w64 (by omega) (by omega)
  have hw2 : IntKind.i64.wrap y2 = y2 := by rw [i64_w]; exact Math.w64 (by omega) (by omega)
  have hw3 : IntKind.i64.wrap (4 + y2) = 4 + y2 := by rw [i64_w]; exact Math.w64 (by omega) (by omega)
  have hw4 : IntKind.i64.wrap (y1 * 256) = y1 * 256 := by rw [i64_w]; exact Math.w64 (by omega) (by omega)
  have d1 : decide (48 < y2) = false := decide_eq_false (by omega)
  have d2 : decide (y2 > 48) = false := decide_eq_false (by omega)
  clear h0 h1 h2 hconv h48 hx0' hx1' hx2'
  go_enter Try.func21, Try.ntmps21
  go_upto_region 1 with fail
  have HXr := Aside0.mk (heap_alloc_new w0 (.cells #[.string (⟨#[]⟩ : ByteArray), .int .i64 0] 33))
  have HB1 := Aside0.mk (below_alloc (Below.refl w0.heap.size w0) (.cells #[.string (⟨#[]⟩ : ByteArray), .int .i64 0] 33))
  obtain ⟨r, hr⟩ : ∃ r, r = w0.heap.size := ⟨_, rfl⟩
  have HGE : Aside0 (w0.heap.size ≤ r) := ⟨Nat.le_of_eq hr.symm⟩
  rw [← hr] at HXr
  have hp : Value.pointer (some ⟨w0.heap.size, 0, none⟩) = Value.pointer (some ⟨r, 0, none⟩) := by rw [hr]
  rw [hp]
  clear hp hr
  generalize w0.alloc (.cells #[.string (⟨#[]⟩ : ByteArray), .int .i64 0] 33) = w1 at HXr HB1 ⊢
  have q2 := (HB1.out.cell (World.block_lt_of_cell? w0 _ H2.out)).trans H2.out
  go_wp2_with fail
  clear q2
  obtain ⟨g, hg⟩ : ∃ g, g = w1.heap.size := ⟨_, rfl⟩
  have HGQ := Aside0.mk hg
  have HRG := Aside0.mk (show r < g from hg ▸ blk_lt HXr.out)
  have HG := Aside0.mk (show w0.heap.size ≤ g from hg ▸ HB1.out.size)
  clear hg
  refine Spec.wp_toldL (F := fun j => [0, 0, 2, 6, 14, 30, 63, 127, 0, 256, 768, 1792, 0, 4096, 12288, 28672, 61440, 130816, 262143, 0, 1048575].getD j 0) (C := fun L W => (Below w0.heap.size w0 W ∧ W.heap[r]? = some (.cells #[.string (⟨#[]⟩ : ByteArray), .int .i64 0] 33 (0, 0))) ∧ (if L 19 = true then W.heap[g]? = some (.cells (if L 20 = true then #[.string nm, .int .i64 ino] else #[.string (⟨#[]⟩ : ByteArray), .int .i64 0]) 33 (0, 0)) else W.heap.size = g)) (S := Spec.at_ [fun u W => u = .slice (some ad) 64 c0, fun u W => u = .slice (some ad) 64 c0, fun u W => u = .pointer (some ⟨ad.block, ad.off + 2, none⟩), fun u W => u = .int .u8 y2, fun u W => u = .int .i64 y2, fun u W => u = .int .i64 (4 + y2), fun u W => u = .slice A n c, fun u W => u = .string nm, fun u W => u = .slice (some ad) 64 c0, fun u W => u = .pointer (some ad), fun u W => u = .int .u8 y0, fun u W => u = .int .i64 y0, fun u W => u = .slice (some ad) 64 c0, fun u W => u = .pointer (some ⟨ad.block, ad.off + 1, none⟩), fun u W => u = .int .u8 y1, fun u W => u = .int .i64 y1, fun u W => u = .int .i64 (y1 * 256), fun u W => u = .int .i64 ino, fun u W => u = .agg #[.string nm, .int .i64 ino], fun u W => u = .pointer (some ⟨g, 0, none⟩), fun u W => True]) (Kp := fun W W' => True) (by kernel_rfl) (by kernel_rfl) (Spec.AllStay.at_ ?stay_3) ?cong_3 ?start_3 ?ops_3 ?end_3
  case cong_3 =>
    intro L L' w h hC; rw [← h 19 (by decide), ← h 20 (by decide)]; exact hC
  case stay_3 =>
    exact ⟨fun _ _ _ _ h => h, fun _ _ _ _ h => h, fun _ _ _ _ h => h, fun _ _ _ _ h => h, fun _ _ _ _ h => h, fun _ _ _ _ h => h, fun _ _ _ _ h => h, fun _ _ _ _ h => h, fun _ _ _ _ h => h, fun _ _ _ _ h => h, fun _ _ _ _ h => h, fun _ _ _ _ h => h, fun _ _ _ _ h => h, fun _ _ _ _ h => h, fun _ _ _ _ h => h, fun _ _ _ _ h => h, fun _ _ _ _ h => h, fun _ _ _ _ h => h, fun _ _ _ _ h => h, fun _ _ _ _ h => h, fun _ _ _ _ h => h, trivial⟩
  case start_3 =>
    exact ⟨⟨below_drew HB1.out, HXr.out⟩, HGQ.out.symm⟩
  case ops_3 =>
    refine ⟨?_, ?_, ?_, ?_, ?_, ?_, ?_, ?_, ?_, ?_, ?_, ?_, ?_, ?_, ?_, ?_, ?_, ?_, ?_, ?_, ?_, trivial⟩
    · -- 0: Op.move (Operand.tmp 0)
      refine Spec.tellL rfl fun L v w hC hLj hS hLd ρ hρ K hK => ?_
      have r0 : ρ (.tmp 0) = .slice (some ad) 64 c0 := (hρ _ (by simp [Op.operands])).trans (by kernel_rfl)
      clear hρ hS
      go_simp
      exact hK _ _ hC (trivial) rfl
    · -- 1: Op.move (Operand.tmp 0)
      refine Spec.tellL rfl fun L v w hC hLj hS hLd ρ hρ K hK => ?_
      have r0 : ρ (.tmp 0) = .slice (some ad) 64 c0 := (hρ _ (by simp [Op.operands])).trans (by kernel_rfl)
      clear hρ hS
      go_simp
      exact hK _ _ hC (trivial) rfl
    · -- 2: Op.indexAddr 22 (Operand.tmp 19) (Operand.const (Value.int IntKind.i64 2))
      refine Spec.tellL rfl fun L v w hC hLj hS hLd ρ hρ K hK => ?_
      have s1 : v 1 = .slice (some ad) 64 c0 := (hS 1 rfl).2
      have r19 : ρ (.tmp 19) = .slice (some ad) 64 c0 := ((hρ _ (by simp [Op.operands])).trans (by kernel_rfl : Spec.look _ _ _ v (.tmp 19) = v 1)).trans s1
      have c0 : ρ (.const (Value.int IntKind.i64 2)) = (Value.int IntKind.i64 2) := (hρ _ (by simp [Op.operands])).trans (by kernel_rfl)
      clear hρ hS
      go_simp
      exact hK _ _ hC (trivial) rfl
    · -- 3: Op.load 5 (Operand.tmp 20)
      refine Spec.tellL rfl fun L v w hC hLj hS hLd ρ hρ K hK => ?_
      have s2 : v 2 = .pointer (some ⟨ad.block, ad.off + 2, none⟩) := (hS 2 rfl).2
      have r20 : ρ (.tmp 20) = .pointer (some ⟨ad.block, ad.off + 2, none⟩) := ((hρ _ (by simp [Op.operands])).trans (by kernel_rfl : Spec.look _ _ _ v (.tmp 20) = v 2)).trans s2
      clear hρ hS
      have q2 := (hC.1.1.cell (World.block_lt_of_cell? w0 _ H2.out)).trans H2.out
      go_simp
      exact hK _ _ hC (trivial) rfl
    · -- 4: Op.convert 5 3 (Operand.tmp 21)
      refine Spec.tellL rfl fun L v w hC hLj hS hLd ρ hρ K hK => ?_
      have s3 : v 3 = .int .u8 y2 := (hS 3 rfl).2
      have r21 : ρ (.tmp 21) = .int .u8 y2 := ((hρ _ (by simp [Op.operands])).trans (by kernel_rfl : Spec.look _ _ _ v (.tmp 21) = v 3)).trans s3
      clear hρ hS
      go_simp
      exact hK _ _ hC (trivial) rfl
    · -- 5: Op.binOp BinOp.add 3 (Operand.const (Value.int IntKind.i64 4)) (Operand.tmp 22) 3
      refine Spec.tellL rfl fun L v w hC hLj hS hLd ρ hρ K hK => ?_
      have s4 : v 4 = .int .i64 y2 := (hS 4 rfl).2
      have r22 : ρ (.tmp 22) = .int .i64 y2 := ((hρ _ (by simp [Op.operands])).trans (by kernel_rfl : Spec.look _ _ _ v (.tmp 22) = v 4)).trans s4
      have c0 : ρ (.const (Value.int IntKind.i64 4)) = (Value.int IntKind.i64 4) := (hρ _ (by simp [Op.operands])).trans (by kernel_rfl)
      clear hρ hS
      go_simp
      exact hK _ _ hC (trivial) rfl
    · -- 6: Op.slice 22 (Operand.tmp 18) (some (Operand.const (Value.int IntKind.i64 4))) (some (Opera
      refine Spec.tellL rfl fun L v w hC hLj hS hLd ρ hρ K hK => ?_
      have s0 : v 0 = .slice (some ad) 64 c0 := (hS 0 rfl).2
      have s5 : v 5 = .int .i64 (4 + y2) := (hS 5 rfl).2
      have r18 : ρ (.tmp 18) = .slice (some ad) 64 c0 := ((hρ _ (by simp [Op.operands])).trans (by kernel_rfl : Spec.look _ _ _ v (.tmp 18) = v 0)).trans s0
      have r23 : ρ (.tmp 23) = .int .i64 (4 + y2) := ((hρ _ (by simp [Op.operands])).trans (by kernel_rfl : Spec.look _ _ _ v (.tmp 23) = v 5)).trans s5
      have c0 : ρ (.const (Value.int IntKind.i64 4)) = (Value.int IntKind.i64 4) := (hρ _ (by simp [Op.operands])).trans (by kernel_rfl)
      clear hρ hS
      go_simp
      exact hK _ _ hC (trivial) rfl
    · -- 7: Op.convert 22 9 (Operand.tmp 24)
      refine Spec.tellL rfl fun L v w hC hLj hS hLd ρ hρ K hK => ?_
      have s6 : v 6 = .slice A n c := (hS 6 rfl).2
      have r24 : ρ (.tmp 24) = .slice A n c := ((hρ _ (by simp [Op.operands])).trans (by kernel_rfl : Spec.look _ _ _ v (.tmp 24) = v 6)).trans s6
      clear hρ hS
      have hconv := HCV.out w hC.1.1
      go_simp
      exact hK _ _ hC (trivial) rfl
    · -- 8: Op.move (Operand.tmp 0)
      refine Spec.tellL rfl fun L v w hC hLj hS hLd ρ hρ K hK => ?_
      have r0 : ρ (.tmp 0) = .slice (some ad) 64 c0 := (hρ _ (by simp [Op.operands])).trans (by kernel_rfl)
      clear hρ hS
      go_simp
      exact hK _ _ hC (trivial) rfl
    · -- 9: Op.indexAddr 22 (Operand.tmp 26) (Operand.const (Value.int IntKind.i64 0))
      refine Spec.tellL rfl fun L v w hC hLj hS hLd ρ hρ K hK => ?_
      have s8 : v 8 = .slice (some ad) 64 c0 := (hS 8 rfl).2
      have r26 : ρ (.tmp 26) = .slice (some ad) 64 c0 := ((hρ _ (by simp [Op.operands])).trans (by kernel_rfl : Spec.look _ _ _ v (.tmp 26) = v 8)).trans s8
      have c0 : ρ (.const (Value.int IntKind.i64 0)) = (Value.int IntKind.i64 0) := (hρ _ (by simp [Op.operands])).trans (by kernel_rfl)
      clear hρ hS
      go_simp
      exact hK _ _ hC (trivial) rfl
    · -- 10: Op.load 5 (Operand.tmp 27)
      refine Spec.tellL rfl fun L v w hC hLj hS hLd ρ hρ K hK => ?_
      have s9 : v 9 = .pointer (some ad) := (hS 9 rfl).2
      have r27 : ρ (.tmp 27) = .pointer (some ad) := ((hρ _ (by simp [Op.operands])).trans (by kernel_rfl : Spec.look _ _ _ v (.tmp 27) = v 9)).trans s9
      clear hρ hS
      have q2 := (hC.1.1.cell (World.block_lt_of_cell? w0 _ H0.out)).trans H0.out
      go_simp
      exact hK _ _ hC (trivial) rfl
    · -- 11: Op.convert 5 3 (Operand.tmp 28)
      refine Spec.tellL rfl fun L v w hC hLj hS hLd ρ hρ K hK => ?_
      have s10 : v 10 = .int .u8 y0 := (hS 10 rfl).2
      have r28 : ρ (.tmp 28) = .int .u8 y0 := ((hρ _ (by simp [Op.operands])).trans (by kernel_rfl : Spec.look _ _ _ v (.tmp 28) = v 10)).trans s10
      clear hρ hS
      go_simp
      exact hK _ _ hC (trivial) rfl
    · -- 12: Op.move (Operand.tmp 0)
      refine Spec.tellL rfl fun L v w hC hLj hS hLd ρ hρ K hK => ?_
      have r0 : ρ (.tmp 0) = .slice (some ad) 64 c0 := (hρ _ (by simp [Op.operands])).trans (by kernel_rfl)
      clear hρ hS
      go_simp
      exact hK _ _ hC (trivial) rfl
    · -- 13: Op.indexAddr 22 (Operand.tmp 30) (Operand.const (Value.int IntKind.i64 1))
      refine Spec.tellL rfl fun L v w hC hLj hS hLd ρ hρ K hK => ?_
      have s12 : v 12 = .slice (some ad) 64 c0 := (hS 12 rfl).2
      have r30 : ρ (.tmp 30) = .slice (some ad) 64 c0 := ((hρ _ (by simp [Op.operands])).trans (by kernel_rfl : Spec.look _ _ _ v (.tmp 30) = v 12)).trans s12
      have c0 : ρ (.const (Value.int IntKind.i64 1)) = (Value.int IntKind.i64 1) := (hρ _ (by simp [Op.operands])).trans (by kernel_rfl)
      clear hρ hS
      go_simp
      exact hK _ _ hC (trivial) rfl
    · -- 14: Op.load 5 (Operand.tmp 31)
      refine Spec.tellL rfl fun L v w hC hLj hS hLd ρ hρ K hK => ?_
      have s13 : v 13 = .pointer (some ⟨ad.block, ad.off + 1, none⟩) := (hS 13 rfl).2
      have r31 : ρ (.tmp 31) = .pointer (some ⟨ad.block, ad.off + 1, none⟩) := ((hρ _ (by simp [Op.operands])).trans (by kernel_rfl : Spec.look _ _ _ v (.tmp 31) = v 13)).trans s13
      clear hρ hS
      have q2 := (hC.1.1.cell (World.block_lt_of_cell? w0 _ H1.out)).trans H1.out
      go_simp
      exact hK _ _ hC (trivial) rfl
    · -- 15: Op.convert 5 3 (Operand.tmp 32)
      refine Spec.tellL rfl fun L v w hC hLj hS hLd ρ hρ K hK => ?_
      have s14 : v 14 = .int .u8 y1 := (hS 14 rfl).2
      have r32 : ρ (.tmp 32) = .int .u8 y1 := ((hρ _ (by simp [Op.operands])).trans (by kernel_rfl : Spec.look _ _ _ v (.tmp 32) = v 14)).trans s14
      clear hρ hS
      go_simp
      exact hK _ _ hC (trivial) rfl
    · -- 16: Op.binOp BinOp.shl 3 (Operand.tmp 33) (Operand.const (Value.int IntKind.u64 8)) 58
      refine Spec.tellL rfl fun L v w hC hLj hS hLd ρ hρ K hK => ?_
      have s15 : v 15 = .int .i64 y1 := (hS 15 rfl).2
      have r33 : ρ (.tmp 33) = .int .i64 y1 := ((hρ _ (by simp [Op.operands])).trans (by kernel_rfl : Spec.look _ _ _ v (.tmp 33) = v 15)).trans s15
      have c0 : ρ (.const (Value.int IntKind.u64 8)) = (Value.int IntKind.u64 8) := (hρ _ (by simp [Op.operands])).trans (by kernel_rfl)
      clear hρ hS
      go_simp
      exact hK _ _ hC (trivial) rfl
    · -- 17: Op.binOp BinOp.or 3 (Operand.tmp 29) (Operand.tmp 34) 3
      refine Spec.tellL rfl fun L v w hC hLj hS hLd ρ hρ K hK => ?_
      have s11 : v 11 = .int .i64 y0 := (hS 11 rfl).2
      have s16 : v 16 = .int .i64 (y1 * 256) := (hS 16 rfl).2
      have r29 : ρ (.tmp 29) = .int .i64 y0 := ((hρ _ (by simp [Op.operands])).trans (by kernel_rfl : Spec.look _ _ _ v (.tmp 29) = v 11)).trans s11
      have r34 : ρ (.tmp 34) = .int .i64 (y1 * 256) := ((hρ _ (by simp [Op.operands])).trans (by kernel_rfl : Spec.look _ _ _ v (.tmp 34) = v 16)).trans s16
      clear hρ hS
      go_simp
      exact hK _ _ hC (trivial) rfl
    · -- 18: Op.build 33 #[(0, Operand.tmp 25), (1, Operand.tmp 35)]
      refine Spec.tellL rfl fun L v w hC hLj hS hLd ρ hρ K hK => ?_
      have s7 : v 7 = .string nm := (hS 7 rfl).2
      have s17 : v 17 = .int .i64 ino := (hS 17 rfl).2
      have r25 : ρ (.tmp 25) = .string nm := ((hρ _ (by simp [Op.operands])).trans (by kernel_rfl : Spec.look _ _ _ v (.tmp 25) = v 7)).trans s7
      have r35 : ρ (.tmp 35) = .int .i64 ino := ((hρ _ (by simp [Op.operands])).trans (by kernel_rfl : Spec.look _ _ _ v (.tmp 35) = v 17)).trans s17
      clear hρ hS
      go_simp
      exact hK _ _ hC (trivial) rfl
    · -- 19: Op.alloc 33
      refine Spec.tellL rfl fun L v w hC hLj hS hLd ρ hρ K hK => ?_
      clear hρ hS
      have e19 : w.heap.size = g := by have := hC.2; rw [hLj] at this; exact this
      have e20 : L 20 = false := hLd 20 (by decide) (by decide)
      go_simp
      exact hK _ _ ⟨⟨below_alloc hC.1.1 _, blk_alloc hC.1.2 _⟩, by rw [if_pos (by simp), if_neg (by simp [e20]), ← e19]; exact heap_alloc_new w _⟩ trivial rfl
    · -- 20: Op.store 33 (Operand.tmp 4) (Operand.tmp 36)
      refine Spec.tellL rfl fun L v w hC hLj hS hLd ρ hρ K hK => ?_
      have s18 : v 18 = .agg #[.string nm, .int .i64 ino] := (hS 18 rfl).2
      have s19 : v 19 = .pointer (some ⟨g, 0, none⟩) := (hS 19 rfl).2
      have r4 : ρ (.tmp 4) = .pointer (some ⟨g, 0, none⟩) := ((hρ _ (by simp [Op.operands])).trans (by kernel_rfl : Spec.look _ _ _ v (.tmp 4) = v 19)).trans s19
      have r36 : ρ (.tmp 36) = .agg #[.string nm, .int .i64 ino] := ((hρ _ (by simp [Op.operands])).trans (by kernel_rfl : Spec.look _ _ _ v (.tmp 36) = v 18)).trans s18
      have l19 : L 19 = true := (hS 19 rfl).1
      clear hρ hS
      have hg1 : w.heap[g]? = some (.cells #[.string (⟨#[]⟩ : ByteArray), .int .i64 0] 33 (0, 0)) := by have := hC.2; rw [if_pos l19, hLj] at this; exact this
      have hcz0 : w.cell? ⟨g, 0, none⟩ = some (.string (⟨#[]⟩ : ByteArray)) := (blk_cell hg1 0).trans rfl
      have hcz1 : w.cell? ⟨g, 1, none⟩ = some (.int .i64 0) := (blk_cell hg1 1).trans rfl
      have hfz0 := blk_frozen hg1 0
      have hfz1 := blk_frozen hg1 1
      go_simp
      exact hK _ _ ⟨⟨(hC.1.1.setCell HG.out _).setCell HG.out _, blk_far (blk_far hC.1.2 (Nat.ne_of_lt HRG.out) _) (Nat.ne_of_lt HRG.out) _⟩, by rw [if_pos (by simp [l19]), if_pos (by simp)]; exact blk_put (blk_put hg1 0 _ rfl) 1 _ rfl⟩ trivial trivial
  case end_3 =>
    intro v w' hC hS
    have s19 : v 19 = .pointer (some ⟨g, 0, none⟩) := hS 19 (by decide)
    clear hS
    simp only [Spec.putAll, Act.put, List.setIfInBounds_toArray, List.set_cons_zero, List.set_cons_succ]
    generalize v 0 = x0
    generalize v 1 = x1
    generalize v 2 = x2
    generalize v 3 = x3
    generalize v 4 = x4
    generalize v 5 = x5
    generalize v 6 = x6
    generalize v 7 = x7
    generalize v 8 = x8
    generalize v 9 = x9
    generalize v 10 = x10
    generalize v 11 = x11
    generalize v 12 = x12
    generalize v 13 = x13
    generalize v 14 = x14
    generalize v 15 = x15
    generalize v 16 = x16
    generalize v 17 = x17
    generalize v 18 = x18
    rw [s19]; clear s19
    have hg2 : w'.heap[g]? = some (.cells #[.string nm, .int .i64 ino] 33 (0, 0)) := hC.2
    have HBa := Aside0.mk hC.1.1
    have HXa := Aside0.mk hC.1.2
    have HYa := Aside0.mk hg2
    have q0 : w'.cell? ⟨g, 0, none⟩ = some (.string nm) := (blk_cell hg2 0).trans rfl
    have q1 : w'.cell? ⟨g, 1, none⟩ = some (.int .i64 ino) := (blk_cell hg2 1).trans rfl
    clear hC hg2
    go_wp2_with fail
    clear q0 q1
    refine (entry_Encode.calls k nm ino b e2 _ HEN.out).mono ?_
    rintro e w4 ⟨v4, rfl, hR, hb⟩
    have HBb := Aside0.mk (below_then HBa.out HBa.out.size hb)
    have HXb := Aside0.mk (blk_below HXa.out hb)
    have HYb := Aside0.mk (blk_below HYa.out hb)
    have HRb := Aside0.mk hR
    clear hR hb HBa HXa HYa
    by_cases he : e2 = 0
    · have hqq := HEQ.out he
      have HQ := Aside0.mk hqq
      subst he
      obtain ⟨A4, c4, rfl, hc4, hC4⟩ := Kd.R_reads HRb.out
      have HC4 := Aside0.mk hC4
      have HD4 := Aside0.mk hc4
      have HS0 := Aside0.mk (Kd.C_below HR.out HBb.out)
      clear HEQ hqq hc4 hC4 HRb
      have hcall : Calls Try.prog 30 #[.slice A4 b.length c4, .slice (some ad) 64 c0] w4 fun e w' => e = .returned (.bool q) ∧ Drawn0 w4 w' := by
        have := slices_Equal_byte_byte.calls k A4 c4 b (some ad) c0 l0 q w4 HC4.out HD4.out HS0.out HC.out HQ.out
        rw [HL.out] at this
        exact this
      have HCL := Aside0.mk hcall
      clear hcall
      go_wp2_with fail
      refine HCL.out.mono ?_
      rintro e w5 ⟨rfl, hd⟩
      have hb := hd.below
      have HBc := Aside0.mk (below_then HBb.out HBb.out.size hb)
      have HXc := Aside0.mk (blk_below HXb.out hb)
      have HYc := Aside0.mk (blk_below HYb.out hb)
      clear hd hb HBb HXb HYb HCL HC4 HD4 HS0
      cases q
      · rw [if_neg (by simp)] at HRS
        have hcz0 : w5.cell? ⟨r, 0, none⟩ = some (.string (⟨#[]⟩ : ByteArray)) := (blk_cell HXc.out 0).trans rfl
        have hcz1 : w5.cell? ⟨r, 1, none⟩ = some (.int .i64 0) := (blk_cell HXc.out 1).trans rfl
        have hfz0 := blk_frozen HXc.out 0
        have hfz1 := blk_frozen HXc.out 1
        go_wp2_with fail
        refine bodyPost_ret (results_ct rfl _ _ r 33 #[.string (⟨#[]⟩ : ByteArray), .int .i64 0] (0, 0) _ rfl (dec_none_ret HXc.out) Try.underlying33 rfl (by kernel_rfl)) rfl ?_
        exact ⟨by rw [HRS.out]; rfl, (HBc.out.setCell HGE.out _).setCell HGE.out _⟩
      · rw [if_pos (by simp)] at HRS
        have q0 : w5.cell? ⟨g, 0, none⟩ = some (.string nm) := (blk_cell HYc.out 0).trans rfl
        have q1 : w5.cell? ⟨g, 1, none⟩ = some (.int .i64 ino) := (blk_cell HYc.out 1).trans rfl
        have hcz0 : w5.cell? ⟨r, 0, none⟩ = some (.string (⟨#[]⟩ : ByteArray)) := (blk_cell HXc.out 0).trans rfl
        have hcz1 : w5.cell? ⟨r, 1, none⟩ = some (.int .i64 0) := (blk_cell HXc.out 1).trans rfl
        have hfz0 := blk_frozen HXc.out 0
        have hfz1 := blk_frozen HXc.out 1
        go_wp2_with fail
        refine bodyPost_ret (results_ct rfl _ _ r 33 #[.string nm, .int .i64 ino] (0, 0) _ rfl (blk_put (blk_put HXc.out 0 _ rfl) 1 _ rfl) Try.underlying33 rfl (by kernel_rfl)) rfl ?_
        exact ⟨by rw [HRS.out]; rfl, (HBc.out.setCell HGE.out _).setCell HGE.out _⟩
    · have d3 : (e2 == 0) = false := beq_eq_false_iff_ne.mpr he
      have d4 : (e2 != 0) = true := bne_iff_ne.mpr he
      rw [if_neg (fun h => he h.1)] at HRS
      clear he HEQ
      have hcz0 : w4.cell? ⟨r, 0, none⟩ = some (.string (⟨#[]⟩ : ByteArray)) := (blk_cell HXb.out 0).trans rfl
      have hcz1 : w4.cell? ⟨r, 1, none⟩ = some (.int .i64 0) := (blk_cell HXb.out 1).trans rfl
      have hfz0 := blk_frozen HXb.out 0
      have hfz1 := blk_frozen HXb.out 1
      go_wp2_with fail
      refine bodyPost_ret (results_ct rfl _ _ r 33 #[.string (⟨#[]⟩ : ByteArray), .int .i64 0] (0, 0) _ rfl (dec_none_ret HXb.out) Try.underlying33 rfl (by kernel_rfl)) rfl ?_
      exact ⟨by rw [HRS.out]; rfl, (HBb.out.setCell HGE.out _).setCell HGE.out _⟩
theorem entry_Decode.calls (k : Nat) (A0 : Option Addr) (c0 : Nat) (l0 : List Int) (r1 : ByteArray) (r2 : Int) (r3 : Int) (w : World) (hr0 : Kd.C (Kd.int .u8) w A0 l0.length l0) (hc0 : l0.length ≤ c0) (h : entry_Decode.f k l0 = some (r1, r2, r3)) :
    Calls Try.prog 21 #[.slice A0 l0.length c0] w fun e w' => e = .returned (.tuple #[.agg #[.string r1, .int .i64 r2], .int .i64 r3]) ∧ Below w.heap.size w w' := by
  unfold entry_Decode.f at h
  by_cases hw : wfb l0 = true
  · rw [if_pos hw] at h
    by_cases hl : l0.length = 64
    · by_cases h48 : rd l0 2 ≤ 48
      · rw [if_pos ⟨hl, h48⟩] at h
        obtain ⟨⟨b, e2⟩, hen, h⟩ := Option.bind_eq_some_iff.1 h
        by_cases he : e2 = 0
        · rw [if_pos he] at h
          obtain ⟨q, hq, h⟩ := Option.bind_eq_some_iff.1 h
          have := dec_main k A0 c0 l0 w hr0 hc0 hl hw h48 b e2 hen q (fun _ => hq) _ rfl
          rw [← hl] at this
          refine this.mono ?_
          rintro e w' ⟨rfl, hb⟩
          refine ⟨?_, hb⟩
          cases q
          · rw [if_neg (by simp)] at h ⊢
            obtain ⟨rfl, rfl, rfl⟩ := (by simpa using h : _ ∧ _ ∧ _)
            rfl
          · rw [if_pos rfl] at h
            rw [if_pos ⟨he, rfl⟩]
            simp only [Option.some.injEq, Prod.mk.injEq] at h
            obtain ⟨rfl, rfl, rfl⟩ := h
            rfl
        · rw [if_neg he] at h
          have := dec_main k A0 c0 l0 w hr0 hc0 hl hw h48 b e2 hen false (fun h => absurd h he) _ rfl
          rw [← hl] at this
          refine this.mono ?_
          rintro e w' ⟨rfl, hb⟩
          refine ⟨?_, hb⟩
          rw [if_neg (fun h => he h.1)]
          simp only [Option.some.injEq, Prod.mk.injEq] at h
          obtain ⟨rfl, rfl, rfl⟩ := h
          rfl
      · rw [if_neg (fun h => h48 h.2)] at h
        simp only [Option.some.injEq, Prod.mk.injEq] at h
        obtain ⟨rfl, rfl, rfl⟩ := h
        have := dec_48 A0 c0 l0 w hr0 hl hw (by omega)
        rw [← hl] at this
        exact this
    · rw [if_neg (fun h => hl h.1)] at h
      simp only [Option.some.injEq, Prod.mk.injEq] at h
      obtain ⟨rfl, rfl, rfl⟩ := h
      exact dec_long A0 c0 _ w hl
  · rw [if_neg hw] at h
    cases h

-- NOT PRINTED: function 24 (slices_Chunk_byte_byte)

-- NOT PRINTED: function 25 (entry_Entry_string)

/-! ### entry_name: function 26 -/
def entry_name.f (a0_0 : ByteArray) (a0_1 : Int) : Option (ByteArray) := some a0_0
set_option maxHeartbeats 8000000 in
set_option maxRecDepth 100000 in
theorem entry_name.calls (a0_0 : ByteArray) (a0_1 : Int) (r : ByteArray) (w : World) (h : entry_name.f a0_0 a0_1 = some r) :
    Calls Try.prog 26 #[.agg #[.string a0_0, .int .i64 a0_1]] w fun e w' => e = .returned (.string r) ∧ Below w.heap.size w w' := by
  have hu33 := Try.underlying33
  have HB := Aside0.mk (Below.refl w.heap.size w)
  have H : (some a0_0) = some r := h
  clear h
  obtain rfl := Option.some.inj H
  go_enter Try.func26, Try.ntmps26
  go_wp2_with (first | ((with_reducible refine gate_dst (N := 1) rfl ?_); refine box_event ?hg (N := 1) ?hd (cs := #[.string a0_0, .int .i64 a0_1]) (t := 33) ?hr ?_; (case hd => rfl); (case hg => rfl); (case hr => first | (go_simp; done) | (go_simp; rfl)); intro gb121 hg w2 hbox hb; have n0_ := Aside0.mk (below_step (by repeat (first | (with_reducible first | exact HB.out | apply below_alloc | apply pw_below_drewN | apply below_drew1) | exact HB.out)) hb); have n1_ := Aside0.mk (hbox); have n2_ := Aside0.mk ((by rw [hg]; exact (below_size (by repeat (first | (with_reducible first | exact HB.out | apply below_alloc | apply pw_below_drewN | apply below_drew1) | exact HB.out))) : w.heap.size ≤ gb121)); have n3_ := Aside0.mk ((by rw [hg]; exact (below_size (by repeat (first | (with_reducible first | exact HB.out | apply below_alloc | apply pw_below_drewN | apply below_drew1) | exact HB.out))) : w.heap.size ≤ gb121)); clear HB; have HB := n0_; have BK121 := n1_; have GW121 := n2_; have GE121 := n3_; clear n0_ n1_ n2_ n3_; clear hb hbox hg; have hcz3_0 : w2.cell? ⟨gb121, 0, none⟩ = some (.string a0_0) := (blk_cell BK121.out 0).trans rfl; have hcz3_1 : w2.cell? ⟨gb121, 1, none⟩ = some (.int .i64 a0_1) := (blk_cell BK121.out 1).trans rfl; have hfz3_0 := blk_frozen BK121.out 0; have hfz3_1 := blk_frozen BK121.out 1))
  go_ret
  exact ⟨by first | rfl | (simp [errW_none, errW_some] <;> rfl) | (simp [*, errW_none, errW_some] <;> rfl), by repeat (first | (with_reducible first | exact HB.out | apply below_alloc | apply pw_below_drewN | apply below_drew1 | refine below_set ?_ GE121.out) | exact HB.out)⟩

-- NOT PRINTED: function 9 (entry_All)

/-! ### cantleref08_Twice: function 13 -/
mutual
def cantleref08_Twice.l0 : Nat → List (S32) → Int → Int → Option (Bool)
  | 0, _, _, _ => none
  | k + 1, x0, x6, x7 => if x7 < x6 then (cantleref08_Twice.l1 k x0 x7 x6 x7 x7 0) else (some false)
def cantleref08_Twice.l1 : Nat → List (S32) → Int → Int → Int → Int → Int → Option (Bool)
  | 0, _, _, _, _, _, _ => none
  | k + 1, x0, x3, x6, x7, x10, x11 => if x11 < x10 then (if 0 ≤ x3 then (if x3 < (x0.length : Int) then (if 0 ≤ x11 then (if x11 < (x0.length : Int) then (if ((rd_T32 x0 x3).f0).toList = ((rd_T32 x0 x11).f0).toList then (some true) else (cantleref08_Twice.l1 k x0 x3 x6 x7 x10 (wrap64 (x11 + 1)))) else (none)) else (none)) else (none)) else (none)) else (cantleref08_Twice.l0 k x0 x6 (wrap64 (x7 + 1)))
end
def cantleref08_Twice.f (k : Nat) (l0 : List (S32)) : Option (Bool) := cantleref08_Twice.l0 k l0 (l0.length : Int) 0
theorem cantleref08_Twice.mono_l : ∀ k, (∀ y0 y1 y2, LeO (cantleref08_Twice.l0 k y0 y1 y2) (cantleref08_Twice.l0 (k + 1) y0 y1 y2)) ∧ (∀ y0 y1 y2 y3 y4 y5, LeO (cantleref08_Twice.l1 k y0 y1 y2 y3 y4 y5) (cantleref08_Twice.l1 (k + 1) y0 y1 y2 y3 y4 y5))
  | 0 => ⟨fun _ _ _ r h => by simp [cantleref08_Twice.l0] at h, fun _ _ _ _ _ _ r h => by simp [cantleref08_Twice.l1] at h⟩
  | k + 1 => by
    obtain ⟨ih0, ih1⟩ := cantleref08_Twice.mono_l k
    refine ⟨?_, ?_⟩
    · intro y0 y1 y2
      unfold cantleref08_Twice.l0
      repeat' first
      | (with_reducible exact ih0 _ _ _)
      | (with_reducible exact ih1 _ _ _ _ _ _)
      | (with_reducible exact LeO.refl _)
      | (with_reducible exact LeO.none _)
      | (with_reducible refine LeO.ite ?_ ?_)
      | (with_reducible refine LeO.bind ?_ (fun _ => ?_))
      | exact ih0 _ _ _
      | exact ih1 _ _ _ _ _ _
      | exact LeO.none _
      | refine LeO.ite ?_ ?_
      | refine LeO.bind ?_ (fun _ => ?_)
    · intro y0 y1 y2 y3 y4 y5
      unfold cantleref08_Twice.l1
      repeat' first
      | (with_reducible exact ih0 _ _ _)
      | (with_reducible exact ih1 _ _ _ _ _ _)
      | (with_reducible exact LeO.refl _)
      | (with_reducible exact LeO.none _)
      | (with_reducible refine LeO.ite ?_ ?_)
      | (with_reducible refine LeO.bind ?_ (fun _ => ?_))
      | exact ih0 _ _ _
      | exact ih1 _ _ _ _ _ _
      | exact LeO.none _
      | refine LeO.ite ?_ ?_
      | refine LeO.bind ?_ (fun _ => ?_)
theorem cantleref08_Twice.mono : ∀ a0 k, LeO (cantleref08_Twice.f k a0) (cantleref08_Twice.f (k + 1) a0) := by
  intro a0 k
  obtain ⟨ih0, ih1⟩ := cantleref08_Twice.mono_l k
  unfold cantleref08_Twice.f
  repeat' first
      | (with_reducible exact ih0 _ _ _)
      | (with_reducible exact ih1 _ _ _ _ _ _)
      | (with_reducible exact LeO.refl _)
      | (with_reducible exact LeO.none _)
      | (with_reducible refine LeO.ite ?_ ?_)
      | (with_reducible refine LeO.bind ?_ (fun _ => ?_))
      | exact ih0 _ _ _
      | exact ih1 _ _ _ _ _ _
      | exact LeO.none _
      | refine LeO.ite ?_ ?_
      | refine LeO.bind ?_ (fun _ => ?_)
set_option maxHeartbeats 8000000 in
set_option maxRecDepth 100000 in
theorem cantleref08_Twice.calls (k : Nat) (A0 : Option Addr) (c0 : Nat) (l0 : List (S32)) (r : Bool) (w : World) (hr0 : Kd.C k32 w A0 l0.length l0) (hc0 : l0.length ≤ c0) (h : cantleref08_Twice.f k l0 = some r) :
    Calls Try.prog 13 #[.slice A0 l0.length c0] w fun e w' => e = .returned (.bool r) ∧ Drawn0 w w' := by
  have HR0 := Aside0.mk hr0
  have HC0 := Aside0.mk hc0
  clear hr0 hc0
  have H : (cantleref08_Twice.l0 k l0 (l0.length : Int) 0) = some r := h
  clear h
  have H' := Aside0.mk H
  clear H
  go_enter Try.func13, Try.ntmps13
  go_wp2
  repeat (go_quiet (fail); try go_wp2)
  go_loopg [7] k (fun kq v7 w' => ∃ (x7_1 : Int), v7 = .int .i64 x7_1 ∧ Aside0 (cantleref08_Twice.l0 kq l0 (l0.length : Int) x7_1 = some r) ∧ Aside0 (kq ≤ k) ∧ Drawn0 w w')
  case atStart => exact ⟨(0), (by first | rfl | (simp; done) | (simp [*]; done)), H', ⟨Nat.le_refl _⟩, by repeat (first | exact Drawn0.refl _ | apply Drawn0.step)⟩
  case round =>
    clear H'
    try clear c1
    obtain ⟨x7_1, rfl, HA, HK1, ⟨m1, rfl⟩⟩ := hrel
    cases gk with
    | zero => exact absurd HA.out (by simp [cantleref08_Twice.l0])
    | succ k1 =>
      have H := HA.out
      clear HA
      simp only [cantleref08_Twice.l0] at H
      by_cases c2 : x7_1 < (l0.length : Int)
      · rw [if_pos c2] at H
        have c2b0 : decide (x7_1 < (l0.length : Int)) = true := decide_eq_true c2
        clear c2
        have H' := Aside0.mk H
        clear H
        go_wp2
        repeat (go_quiet (fail); try go_wp2)
        go_loopg [11] k1 (fun kq v11 w' => ∃ (x11_2 : Int), v11 = .int .i64 x11_2 ∧ Aside0 (cantleref08_Twice.l1 kq l0 x7_1 (l0.length : Int) x7_1 x7_1 x11_2 = some r) ∧ Aside0 (kq ≤ k1) ∧ Drawn0 w w')
        case atStart => exact ⟨(0), (by first | rfl | (simp; done) | (simp [*]; done)), H', ⟨Nat.le_refl _⟩, by repeat (first | exact Drawn0.refl _ | apply Drawn0.step)⟩
        case round =>
          clear H'
          try clear c1
          try clear c2
          try clear c2b0
          try clear p2
          obtain ⟨x11_2, rfl, HA, HK2, ⟨m2, rfl⟩⟩ := hrel
          cases gk with
          | zero => exact absurd HA.out (by simp [cantleref08_Twice.l1])
          | succ k2 =>
            have H := HA.out
            clear HA
            simp only [cantleref08_Twice.l1] at H
            by_cases c3 : x11_2 < x7_1
            · rw [if_pos c3] at H
              have c3b0 : decide (x11_2 < x7_1) = true := decide_eq_true c3
              clear c3
              by_cases c4 : 0 ≤ x7_1
              · rw [if_pos c4] at H
                have c4b0 : decide (0 ≤ x7_1) = true := decide_eq_true c4
                clear c4
                by_cases c5 : x7_1 < (l0.length : Int)
                · rw [if_pos c5] at H
                  have c5b0 : decide (x7_1 < (l0.length : Int)) = true := decide_eq_true c5
                  clear c5
                  by_cases c6 : 0 ≤ x11_2
                  · rw [if_pos c6] at H
                    have c6b0 : decide (0 ≤ x11_2) = true := decide_eq_true c6
                    clear c6
                    by_cases c7 : x11_2 < (l0.length : Int)
                    · rw [if_pos c7] at H
                      have c7b0 : decide (x11_2 < (l0.length : Int)) = true := decide_eq_true c7
                      clear c7
                      by_cases c8 : ((rd_T32 l0 x7_1).f0).toList = ((rd_T32 l0 x11_2).f0).toList
                      · rw [if_pos c8] at H
                        have c8b0 : (((rd_T32 l0 x7_1).f0).toList == ((rd_T32 l0 x11_2).f0).toList) = true := beq_iff_eq.mpr c8
                        have c8b1 : (((rd_T32 l0 x7_1).f0).toList != ((rd_T32 l0 x11_2).f0).toList) = false := bne_eq_false_iff_eq.mpr c8
                        clear c8
                        obtain rfl := Option.some.inj H
                        have p122 : 0 ≤ (x7_1 : Int) := of_decide_eq_true (by first | (with_reducible assumption) | assumption)
                        have q122 : x7_1 < (l0.length : Int) := of_decide_eq_true (by first | (with_reducible assumption) | assumption)
                        obtain ⟨ad122, e122, hx122_0, hx122_1⟩ := at_T32 HR0.out x7_1 p122 q122
                        cases e122
                        replace p122 := eq_true p122
                        replace q122 := eq_true q122
                        have p123 : 0 ≤ (x11_2 : Int) := of_decide_eq_true (by first | (with_reducible assumption) | assumption)
                        have q123 : x11_2 < (l0.length : Int) := of_decide_eq_true (by first | (with_reducible assumption) | assumption)
                        obtain ⟨ad123, e123, hx123_0, hx123_1⟩ := at_T32 HR0.out x11_2 p123 q123
                        obtain rfl : ad122 = ad123 := (by injection e123)
                        replace p123 := eq_true p123
                        replace q123 := eq_true q123
                        go_wp2
                        repeat (go_quiet (fail); try go_wp2)
                        go_ret
                        exact ⟨by first | rfl | (simp; done) | (simp [*]; done), by repeat (first | exact Drawn0.refl _ | apply Drawn0.step)⟩
                      · rw [if_neg c8] at H
                        have c8b0 : (((rd_T32 l0 x7_1).f0).toList == ((rd_T32 l0 x11_2).f0).toList) = false := beq_eq_false_iff_ne.mpr c8
                        have c8b1 : (((rd_T32 l0 x7_1).f0).toList != ((rd_T32 l0 x11_2).f0).toList) = true := bne_iff_ne.mpr c8
                        have H' := Aside0.mk H
                        clear H
                        have p122 : 0 ≤ (x7_1 : Int) := of_decide_eq_true (by first | (with_reducible assumption) | assumption)
                        have q122 : x7_1 < (l0.length : Int) := of_decide_eq_true (by first | (with_reducible assumption) | assumption)
                        obtain ⟨ad122, e122, hx122_0, hx122_1⟩ := at_T32 HR0.out x7_1 p122 q122
                        cases e122
                        replace p122 := eq_true p122
                        replace q122 := eq_true q122
                        have p123 : 0 ≤ (x11_2 : Int) := of_decide_eq_true (by first | (with_reducible assumption) | assumption)
                        have q123 : x11_2 < (l0.length : Int) := of_decide_eq_true (by first | (with_reducible assumption) | assumption)
                        obtain ⟨ad123, e123, hx123_0, hx123_1⟩ := at_T32 HR0.out x11_2 p123 q123
                        obtain rfl : ad122 = ad123 := (by injection e123)
                        replace p123 := eq_true p123
                        replace q123 := eq_true q123
                        go_wp2
                        repeat (go_quiet (fail); try go_wp2)
                        go_roundg k2
                        case measure => have := HK1.out; have := HK2.out; omega
                        case rel => exact ⟨(wrap64 (x11_2 + 1)), (by first | rfl | (simp; done) | (simp [*]; done)), H', ⟨by have := HK1.out; have := HK2.out; omega⟩, by repeat (first | exact Drawn0.refl _ | apply Drawn0.step)⟩
                    · rw [if_neg c7] at H
                      exact absurd H (by simp)
                  · rw [if_neg c6] at H
                    exact absurd H (by simp)
                · rw [if_neg c5] at H
                  exact absurd H (by simp)
              · rw [if_neg c4] at H
                exact absurd H (by simp)
            · rw [if_neg c3] at H
              have c3b0 : decide (x11_2 < x7_1) = false := decide_eq_false c3
              clear c3
              have H' := Aside0.mk H
              clear H
              go_wp2
              repeat (go_quiet (fail); try go_wp2)
              go_roundg k2
              case measure => have := HK1.out; have := HK2.out; omega
              case rel => exact ⟨(wrap64 (x7_1 + 1)), (by first | rfl | (simp; done) | (simp [*]; done)), H', ⟨by have := HK1.out; have := HK2.out; omega⟩, by repeat (first | exact Drawn0.refl _ | apply Drawn0.step)⟩
      · rw [if_neg c2] at H
        have c2b0 : decide (x7_1 < (l0.length : Int)) = false := decide_eq_false c2
        clear c2
        obtain rfl := Option.some.inj H
        go_wp2
        repeat (go_quiet (fail); try go_wp2)
        go_ret
        exact ⟨by first | rfl | (simp; done) | (simp [*]; done), by repeat (first | exact Drawn0.refl _ | apply Drawn0.step)⟩

end Go.Proofs.Ytfkfpeiocdjniaa.PAll
