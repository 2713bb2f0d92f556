/- EntryAll: the walk through the law function, by hand. Conditions: as each lemma says. -/
import Derived.Test.YtfkfpeiocdjniaaPAllx1
import Derived.Test.YtfkfpeiocdjniaaPAllx2
import Derived.Test.YtfkfpeiocdjniaaPAllx8
import Derived.Test.YtfkfpeiocdjniaaAlW
import Derived.Test.YtfkfpeiocdjniaaSpecL
import Derived.Deep.QuietTactic
import Derived.BigQuiet
namespace Go.Proofs.Ytfkfpeiocdjniaa.PAll
open Go.RowKit Go.Proofs.YtfkfpeiocdjniaaW.PrintWords Go.Proofs.YtfkfpeiocdjniaaW.PrintLast Go.Proofs.YtfkfpeiocdjniaaW.PrintMore
set_option linter.unusedVariables false
set_option linter.unusedSimpArgs false
attribute [local go_sem high] eqA32 eqA33
theorem rdr (l : List S32) (i : Nat) (h : i < l.length) : rd_T32 l (i : Int) = l[i] := by unfold rd_T32; simp [h]
theorem rdm (l : List S33) (i : Nat) (h : i < l.length) : rd_T32 (l.map toRef) (i : Int) = toRef l[i] := by unfold rd_T32; simp [h]
theorem ea_long (k : Nat) (hlv : cantlelaw08_Lives.f k = some true) (w0 : World) (A1 : Option Addr) (c1 : Nat) (b : List Int) (hl : 2000 < b.length) :
    Calls Try.prog 3 #[.slice A1 b.length c1] w0 fun e w' => e = .returned (.bool true) ∧ Below w0.heap.size w0 w' := by
  have d : decide (2000 < (b.length : Int)) = true := decide_eq_true (by omega)
  have d' : decide ((b.length : Int) > 2000) = true := decide_eq_true (by omega)
  have HLV := Aside0.mk hlv
  clear hl hlv
  go_enter Try.func3, Try.ntmps3
  go_wp2_with fail
  refine (cantlelaw08_Lives.calls k true _ HLV.out).mono ?_
  rintro e w1 ⟨rfl, hb⟩
  have HB1 := Aside0.mk hb
  clear hb
  go_wp2_with fail
  refine (cantlelaw08_Lives.calls k true _ HLV.out).mono ?_
  rintro e w2 ⟨rfl, hb⟩
  have HB2 := Aside0.mk (below_then HB1.out HB1.out.size hb)
  clear hb
  go_wp2_with fail
  go_ret
  exact ⟨rfl, HB2.out⟩
set_option maxRecDepth 100000 in
set_option maxHeartbeats 8000000 in
theorem ea_short (k : Nat) (hlv : cantlelaw08_Lives.f k = some true) (w0 : World) (A1 : Option Addr) (c1 : Nat) (b : List Int) (hl : b.length ≤ 2000)
    (hr1 : Kd.C (Kd.int .u8) w0 A1 b.length b) (hc1 : b.length ≤ c1) (es : List S33) (e : Int) (is_ : Bool)
    (hAll : ∀ W, Below w0.heap.size w0 W → Calls Try.prog 9 #[.slice A1 b.length c1] W fun e' w' => ∃ v0, e' = .returned (.tuple #[v0, .int .i64 e]) ∧ Kd.R k33 33 w' W.heap.size (fun _ => True) v0 es ∧ Below W.heap.size W w')
    (f2 : cantleref08_All.f k (strOfNums b) = some (es.map toRef, is_)) (he : e = if is_ then 0 else 2) (hne : is_ = false → es = []) (hes : es.length ≤ 1000)
    (hJ : is_ = true → ∀ (W : World) (A : Option Addr) (c : Nat), Kd.C k33 W A es.length es → es.length ≤ c → Calls Try.prog 11 #[.slice A es.length c] W fun e' w' => ∃ v0, e' = .returned (.tuple #[v0, .int .i64 0]) ∧ Kd.R (Kd.int .u8) 5 w' W.heap.size (fun _ => True) v0 b ∧ Below W.heap.size W w') :
    Calls Try.prog 3 #[.slice A1 b.length c1] w0 fun e w' => e = .returned (.bool true) ∧ Below w0.heap.size w0 w' := by
  have d : decide (2000 < (b.length : Int)) = false := decide_eq_false (by omega)
  have d' : decide ((b.length : Int) > 2000) = false := decide_eq_false (by omega)
  have HLV := Aside0.mk hlv
  have HR1 := Aside0.mk hr1
  have HC1 := Aside0.mk hc1
  have HALL := Aside0.mk hAll
  have F2 := Aside0.mk f2
  have HE := Aside0.mk he
  have HNE := Aside0.mk hne
  have HES := Aside0.mk hes
  have HJ := Aside0.mk hJ
  clear hl hlv hr1 hc1 hAll f2 he hne hes hJ
  go_enter Try.func3, Try.ntmps3
  go_wp2_with fail
  refine (cantlelaw08_Lives.calls k true _ HLV.out).mono ?_
  rintro e' w1 ⟨rfl, hb⟩
  have HB1 := Aside0.mk hb
  clear hb
  go_wp2_with fail
  refine (HALL.out w1 HB1.out).mono ?_
  rintro e' w2 ⟨v2, rfl, hR, hb⟩
  obtain ⟨A3, c3, rfl, hc3, hC3⟩ := Kd.R_reads hR
  have HB2 := Aside0.mk (below_then HB1.out HB1.out.size hb)
  have HR2 := Aside0.mk hC3
  have HC3 := Aside0.mk hc3
  clear hb hR hC3 hc3 HB1
  have hcv := Kd.C_string (P := Try.prog) (A := A1) (c := c1) Try.underlying22 Try.underlying5 Try.underlying9 (Kd.C_below HR1.out HB2.out)
  go_wp2_with fail
  clear hcv
  refine (cantleref08_All.calls k (strOfNums b) (es.map toRef) is_ _ F2.out).mono ?_
  rintro e' w3 ⟨v3, rfl, hR, hb⟩
  obtain ⟨A4, c4, rfl, hc4, hC4⟩ := Kd.R_reads hR
  have HB3 := Aside0.mk (below_then HB2.out HB2.out.size hb)
  have HR3 := Aside0.mk (Kd.C_below HR2.out hb)
  have HR4 := Aside0.mk hC4
  clear hb hR hC4 hc4 HB2 HR2
  have hlm : (es.map toRef).length = es.length := List.length_map ..
  cases is_
  · obtain rfl : e = 2 := HE.out
    obtain rfl : es = [] := HNE.out rfl
    clear HE HNE HJ hlm
    go_wp2_with fail
    go_loopw [50] (fun v50 wr => v50 = .int .i64 0 ∧ Aside0 (Below w0.heap.size w0 wr)) (fun _ _ => 0)
    case atStart => exact ⟨rfl, HB3⟩
    case round =>
      obtain ⟨rfl, HBi⟩ := hrel
      go_wp2_with fail
      go_ret
      exact ⟨rfl, HBi.out⟩
  · obtain rfl : e = 0 := HE.out
    have HLM := Aside0.mk hlm
    rw [hlm]
    clear HE HNE hlm
    go_wp2_with fail
    go_loopw [50] (fun v50 wr => ∃ i : Nat, i ≤ es.length ∧ v50 = .int .i64 (i : Int) ∧ Aside0 (Below w0.heap.size w0 wr) ∧ Aside0 (Below w3.heap.size w3 wr)) (fun v50 _ => es.length - (intOf v50).toNat)
    case atStart => exact ⟨0, Nat.zero_le _, rfl, HB3, ⟨Below.refl _ _⟩⟩
    case round =>
      obtain ⟨i, hi, rfl, HBi, HBk⟩ := hrel
      clear HB3
      by_cases hlt : i < es.length
      · have di : decide ((i : Int) < (es.length : Int)) = true := decide_eq_true (by omega)
        have dn : decide (i < es.length) = true := decide_eq_true hlt
        have hi0 : (0 ≤ (i : Int)) = True := eq_true (by omega)
        obtain ⟨ad3, eA, hx0, hx1⟩ := at_T33 (Kd.C_below HR3.out HBk.out) (i : Int) (by omega) (by omega)
        subst eA
        have h4 : (i : Int) < ((es.map toRef).length : Int) := by rw [HLM.out]; omega
        obtain ⟨ad4, eA, hy0, hy1⟩ := at_T32 (Kd.C_below HR4.out HBk.out) (i : Int) (by omega) h4
        subst eA
        rw [rd33 es i hlt] at hx0 hx1
        rw [rdm es i hlt] at hy0 hy1
        have ht0 : (toRef es[i]).f0 = (es[i]).f0 := rfl
        have ht1 : (toRef es[i]).f1 = (es[i]).f1 := rfl
        rw [ht0] at hy0
        rw [ht1] at hy1
        clear ht0 ht1 h4
        generalize (es[i]).f0 = s at hx0 hy0
        generalize (es[i]).f1 = n at hx1 hy1
        rw [Int.toNat_natCast] at hx0 hx1 hy0 hy1
        have HX := Aside0.mk (And.intro hx0 (And.intro hx1 (And.intro hy0 hy1)))
        have hi1 : IntKind.i64.wrap ((i : Int) + 1) = ((i + 1 : Nat) : Int) := by rw [i64_w]; exact Math.w64 (by have := HES.out; omega) (by have := HES.out; omega)
        clear hx0 hx1 hy0 hy1
        go_upto_region 10 with fail
        refine Spec.wp_told (F := fun j => [0, 0, 3, 7, 0, 0, 48, 112, 255].getD j 0) (C := fun W => Below wr.heap.size wr W) (S := Spec.at_ [fun u W => u = .slice (some ad3) es.length c3, fun u W => u = .int .i64 (i : Int), fun u W => u = .pointer (some (ad3.add (i * 2))), fun u W => u = .agg #[.string s, .int .i64 n], fun u W => u = .slice (some ad4) es.length c4, fun u W => u = .int .i64 (i : Int), fun u W => u = .pointer (some (ad4.add (i * 2))), fun u W => u = .agg #[.string s, .int .i64 n], fun u W => u = .bool false]) (Kp := fun W W' => Below W.heap.size W W') (by kernel_rfl) (by kernel_rfl) (Spec.AllStay.at_ ?stay_10) ?start_10 ?ops_10 ?end_10
        case stay_10 =>
          exact ⟨fun _ _ _ _ h => h, fun _ _ _ _ h => h, fun _ _ _ _ h => h, fun _ _ _ _ h => h, fun _ _ _ _ h => h, fun _ _ _ _ h => h, fun _ _ _ _ h => h, fun _ _ _ _ h => h, fun _ _ _ _ h => h, trivial⟩
        case start_10 =>
          exact below_drew (Below.refl _ _)
        case ops_10 =>
          refine ⟨?_, ?_, ?_, ?_, ?_, ?_, ?_, ?_, ?_, trivial⟩
          · -- 0: Op.move (Operand.tmp 3)
            refine Spec.tell rfl fun v w hC hS ρ hρ K hK => ?_
            have r3 : ρ (.tmp 3) = .slice (some ad3) es.length c3 := (hρ _ (by simp [Op.operands])).trans (by kernel_rfl)
            clear hρ hS
            go_simp
            exact hK _ _ hC (Below.refl _ _) rfl
          · -- 1: Op.move (Operand.tmp 7)
            refine Spec.tell rfl fun v w hC hS ρ hρ K hK => ?_
            have r7 : ρ (.tmp 7) = .int .i64 (i : Int) := (hρ _ (by simp [Op.operands])).trans (by kernel_rfl)
            clear hρ hS
            go_simp
            exact hK _ _ hC (Below.refl _ _) rfl
          · -- 2: Op.indexAddr 24 (Operand.tmp 53) (Operand.tmp 54)
            refine Spec.tell rfl fun v w hC hS ρ hρ K hK => ?_
            have s0 : v 0 = .slice (some ad3) es.length c3 := hS 0 rfl
            have s1 : v 1 = .int .i64 (i : Int) := hS 1 rfl
            have r53 : ρ (.tmp 53) = .slice (some ad3) es.length c3 := ((hρ _ (by simp [Op.operands])).trans (by kernel_rfl : Spec.look _ _ _ v (.tmp 53) = v 0)).trans s0
            have r54 : ρ (.tmp 54) = .int .i64 (i : Int) := ((hρ _ (by simp [Op.operands])).trans (by kernel_rfl : Spec.look _ _ _ v (.tmp 54) = v 1)).trans s1
            clear hρ hS
            go_simp
            exact hK _ _ hC (Below.refl _ _) rfl
          · -- 3: Op.load 33 (Operand.tmp 55)
            refine Spec.tell rfl fun v w hC hS ρ hρ K hK => ?_
            have s2 : v 2 = .pointer (some (ad3.add (i * 2))) := hS 2 rfl
            have r55 : ρ (.tmp 55) = .pointer (some (ad3.add (i * 2))) := ((hρ _ (by simp [Op.operands])).trans (by kernel_rfl : Spec.look _ _ _ v (.tmp 55) = v 2)).trans s2
            clear hρ hS
            have q0 := (hC.cell (World.block_lt_of_cell? wr _ HX.out.1)).trans HX.out.1
            have q1 := (hC.cell (World.block_lt_of_cell? wr _ HX.out.2.1)).trans HX.out.2.1
            go_simp
            exact hK _ _ hC (Below.refl _ _) rfl
          · -- 4: Op.move (Operand.tmp 5)
            refine Spec.tell rfl fun v w hC hS ρ hρ K hK => ?_
            have r5 : ρ (.tmp 5) = .slice (some ad4) es.length c4 := (hρ _ (by simp [Op.operands])).trans (by kernel_rfl)
            clear hρ hS
            go_simp
            exact hK _ _ hC (Below.refl _ _) rfl
          · -- 5: Op.move (Operand.tmp 7)
            refine Spec.tell rfl fun v w hC hS ρ hρ K hK => ?_
            have r7 : ρ (.tmp 7) = .int .i64 (i : Int) := (hρ _ (by simp [Op.operands])).trans (by kernel_rfl)
            clear hρ hS
            go_simp
            exact hK _ _ hC (Below.refl _ _) rfl
          · -- 6: Op.indexAddr 28 (Operand.tmp 57) (Operand.tmp 58)
            refine Spec.tell rfl fun v w hC hS ρ hρ K hK => ?_
            have s4 : v 4 = .slice (some ad4) es.length c4 := hS 4 rfl
            have s5 : v 5 = .int .i64 (i : Int) := hS 5 rfl
            have r57 : ρ (.tmp 57) = .slice (some ad4) es.length c4 := ((hρ _ (by simp [Op.operands])).trans (by kernel_rfl : Spec.look _ _ _ v (.tmp 57) = v 4)).trans s4
            have r58 : ρ (.tmp 58) = .int .i64 (i : Int) := ((hρ _ (by simp [Op.operands])).trans (by kernel_rfl : Spec.look _ _ _ v (.tmp 58) = v 5)).trans s5
            clear hρ hS
            go_simp
            exact hK _ _ hC (Below.refl _ _) rfl
          · -- 7: Op.load 32 (Operand.tmp 59)
            refine Spec.tell rfl fun v w hC hS ρ hρ K hK => ?_
            have s6 : v 6 = .pointer (some (ad4.add (i * 2))) := hS 6 rfl
            have r59 : ρ (.tmp 59) = .pointer (some (ad4.add (i * 2))) := ((hρ _ (by simp [Op.operands])).trans (by kernel_rfl : Spec.look _ _ _ v (.tmp 59) = v 6)).trans s6
            clear hρ hS
            have q0 := (hC.cell (World.block_lt_of_cell? wr _ HX.out.2.2.1)).trans HX.out.2.2.1
            have q1 := (hC.cell (World.block_lt_of_cell? wr _ HX.out.2.2.2)).trans HX.out.2.2.2
            go_simp
            exact hK _ _ hC (Below.refl _ _) rfl
          · -- 8: Op.binOp BinOp.neq 32 (Operand.tmp 56) (Operand.tmp 60) 32
            refine Spec.tell rfl fun v w hC hS ρ hρ K hK => ?_
            have s3 : v 3 = .agg #[.string s, .int .i64 n] := hS 3 rfl
            have s7 : v 7 = .agg #[.string s, .int .i64 n] := hS 7 rfl
            have r56 : ρ (.tmp 56) = .agg #[.string s, .int .i64 n] := ((hρ _ (by simp [Op.operands])).trans (by kernel_rfl : Spec.look _ _ _ v (.tmp 56) = v 3)).trans s3
            have r60 : ρ (.tmp 60) = .agg #[.string s, .int .i64 n] := ((hρ _ (by simp [Op.operands])).trans (by kernel_rfl : Spec.look _ _ _ v (.tmp 60) = v 7)).trans s7
            clear hρ hS
            go_simp
            exact hK _ _ hC (Below.refl _ _) rfl
        case end_10 =>
          intro v w' hC hS
          have s8 : v 8 = .bool false := hS 8 (by decide)
          clear hS
          simp only [Spec.putAll, Act.put, List.setIfInBounds_toArray, List.set_cons_zero, List.set_cons_succ]
          generalize v 0 = x0
          generalize v 1 = x1
          generalize v 2 = x2
          generalize v 3 = x3
          generalize v 4 = x4
          generalize v 5 = x5
          generalize v 6 = x6
          generalize v 7 = x7
          rw [s8]; clear s8
          have HBi2 := Aside0.mk (below_then HBi.out HBi.out.size hC)
          have HBk2 := Aside0.mk (below_then HBk.out HBk.out.size hC)
          clear hC
          go_wp2_with fail
          go_roundw
          case rel => exact ⟨i + 1, by omega, rfl, HBi2, HBk2⟩
          case measure => simp [intOf]; omega
      · obtain rfl : i = es.length := by omega
        have di : decide ((es.length : Int) < (es.length : Int)) = false := decide_eq_false (by omega)
        clear hlt
        go_wp2_with fail
        refine (HJ.out (by trivial) wr A3 c3 (Kd.C_below HR3.out HBk.out) HC3.out).mono ?_
        rintro e' w5 ⟨v5, rfl, hR, hb⟩
        obtain ⟨A5, c5, rfl, hc5, hC5⟩ := Kd.R_reads hR
        have HB5 := Aside0.mk (below_then HBi.out HBi.out.size hb)
        have hcv5 := Kd.C_string (P := Try.prog) (A := A5) (c := c5) Try.underlying22 Try.underlying5 Try.underlying9 hC5
        have hcv1 := Kd.C_string (P := Try.prog) (A := A1) (c := c1) Try.underlying22 Try.underlying5 Try.underlying9 (Kd.C_below HR1.out HB5.out)
        clear hb hR hC5 hc5
        go_wp2_with fail
        go_ret
        exact ⟨rfl, HB5.out⟩
end Go.Proofs.Ytfkfpeiocdjniaa.PAll
