/- EntryJoins: the walk through the law function, by hand. Conditions: as each lemma says. -/
import Derived.Test.YtfkfpeiocdjniaaEaW
namespace Go.Proofs.Ytfkfpeiocdjniaa.PAll
open Go.RowKit Go.Proofs.YtfkfpeiocdjniaaW.PrintWords Go.Proofs.YtfkfpeiocdjniaaW.PrintLast Go.Proofs.YtfkfpeiocdjniaaW.PrintMore
set_option linter.unusedVariables false
set_option linter.unusedSimpArgs false
attribute [local go_sem high] eqA32 eqA33
/-- What the loop over the document's entries tells: the text, and whether all may be. -/
def wantF (may : S33 → Bool) (bytes : S33 → ByteArray) (m0 : Bool) : ByteArray → List S33 → ByteArray × Bool
  | t, [] => (t, m0)
  | t, x :: r => if may x = true then wantF may bytes m0 (t ++ bytes x) r else (t, false)
theorem ej_long (k : Nat) (hlv : cantlelaw08_Lives.f k = some true) (w0 : World) (A1 : Option Addr) (c1 : Nat) (l : List S33) (hr1 : Kd.C k33 w0 A1 l.length l) (hc1 : l.length ≤ c1) (hf : cantlelaw08_few.f k l = some false) :
    Calls Try.prog 4 #[.slice A1 l.length c1] w0 fun e w' => e = .returned (.bool true) ∧ Below w0.heap.size w0 w' := by
  have HLV := Aside0.mk hlv
  have HF := Aside0.mk hf
  have HR1 := Aside0.mk hr1
  have HC1 := Aside0.mk hc1
  clear hf hlv hr1 hc1
  go_enter Try.func4, Try.ntmps4
  go_wp2_with fail
  refine (cantlelaw08_Lives.calls k true _ HLV.out).mono ?_
  rintro e w1 ⟨rfl, hb⟩
  have HB1 := Aside0.mk hb
  clear hb
  go_wp2_with fail
  refine (cantlelaw08_few.calls k A1 c1 l false _ (Kd.C_below HR1.out HB1.out) HC1.out HF.out).mono ?_
  rintro e w2 ⟨rfl, hb⟩
  have HB2 := Aside0.mk (below_then HB1.out HB1.out.size hb)
  clear hb
  go_wp2_with fail
  refine (cantlelaw08_Lives.calls k true _ HLV.out).mono ?_
  rintro e w3 ⟨rfl, hb⟩
  have HB3 := Aside0.mk (below_then HB2.out HB2.out.size hb)
  clear hb
  go_wp2_with fail
  go_ret
  exact ⟨rfl, HB3.out⟩
set_option maxRecDepth 100000 in
set_option maxHeartbeats 8000000 in
theorem ej_short (k : Nat) (hlv : cantlelaw08_Lives.f k = some true) (w0 : World) (A1 : Option Addr) (c1 : Nat) (l : List S33) (hr1 : Kd.C k33 w0 A1 l.length l) (hc1 : l.length ≤ c1) (hf : cantlelaw08_few.f k l = some true) (hl : l.length ≤ 1000)
    (dup : Bool) (hT : cantleref08_Twice.f k (l.map toRef) = some dup) (may : S33 → Bool) (bytes : S33 → ByteArray) (hM : ∀ x ∈ l, cantleref08_May.f k x.f0 x.f1 = some (may x)) (hE : ∀ x ∈ l, may x = true → cantleref08_Encode.f k x.f0 x.f1 = some (bytes x) ∧ (bytes x).size = 64)
    (b : List Int) (e : Int) (m1 : Bool) (want : ByteArray) (hW : wantF may bytes (!dup) (⟨#[]⟩ : ByteArray) l = (want, m1))
    (hJ : ∀ (W : World) (A : Option Addr) (c : Nat), Kd.C k33 W A l.length l → l.length ≤ c → Calls Try.prog 11 #[.slice A l.length c] W fun e' w' => ∃ v0, e' = .returned (.tuple #[v0, .int .i64 e]) ∧ Kd.R (Kd.int .u8) 5 w' W.heap.size (fun _ => True) v0 b ∧ Below W.heap.size W w')
    (hno : m1 = false → b = [] ∧ e = 1) (hyes : m1 = true → e = 0 ∧ strOfNums b = want ∧ ∀ (W : World) (A : Option Addr) (c : Nat), Kd.C (Kd.int .u8) W A b.length b → b.length ≤ c → Calls Try.prog 9 #[.slice A b.length c] W fun e' w' => ∃ v0, e' = .returned (.tuple #[v0, .int .i64 0]) ∧ Kd.R k33 33 w' W.heap.size (fun _ => True) v0 l ∧ Below W.heap.size W w') :
    Calls Try.prog 4 #[.slice A1 l.length c1] w0 fun e w' => e = .returned (.bool true) ∧ Below w0.heap.size w0 w' := by
  have HLV := Aside0.mk hlv
  have HF := Aside0.mk hf
  have HR1 := Aside0.mk hr1
  have HC1 := Aside0.mk hc1
  have HL := Aside0.mk hl
  obtain ⟨rl, hrl⟩ : ∃ rl, rl = l.map toRef := ⟨_, rfl⟩
  rw [← hrl] at hT
  have HRL := Aside0.mk hrl
  have HT := Aside0.mk hT
  have HM := Aside0.mk hM
  have HE := Aside0.mk hE
  have HW := Aside0.mk hW
  have HJ := Aside0.mk hJ
  have HNO := Aside0.mk hno
  have HYES := Aside0.mk hyes
  clear hf hlv hr1 hc1 hl hT hM hE hW hJ hno hyes hrl
  go_enter Try.func4, Try.ntmps4
  go_wp2_with fail
  refine (cantlelaw08_Lives.calls k true _ HLV.out).mono ?_
  rintro e' w1 ⟨rfl, hb⟩
  have HB1 := Aside0.mk hb
  clear hb
  go_wp2_with fail
  refine (cantlelaw08_few.calls k A1 c1 l true _ (Kd.C_below HR1.out HB1.out) HC1.out HF.out).mono ?_
  rintro e' w2 ⟨rfl, hb⟩
  have HB2 := Aside0.mk (below_then HB1.out HB1.out.size hb)
  clear hb HB1
  go_wp2_with fail
  refine (refs_calls A1 c1 l w2 (Kd.C_below HR1.out HB2.out) (by have := HL.out; omega)).mono ?_
  rintro e' w3 ⟨v3, rfl, hR, hb⟩
  rw [← HRL.out] at hR
  obtain ⟨A3, c3, rfl, hc3, hC3⟩ := Kd.R_reads hR
  have HB3 := Aside0.mk (below_then HB2.out HB2.out.size hb)
  clear hb HB2 hR
  have HC3 := Aside0.mk hC3
  have hc3' := Aside0.mk hc3
  clear hC3 hc3
  go_wp2_with fail
  refine (cantleref08_Twice.calls k A3 c3 rl dup w3 HC3.out hc3'.out HT.out).mono ?_
  rintro e' w4 ⟨rfl, hd⟩
  have HB4 := Aside0.mk (below_then HB3.out HB3.out.size hd.below)
  clear hd HB3 HC3 hc3'
  go_wp2_with fail
  refine (refs_calls A1 c1 l w4 (Kd.C_below HR1.out HB4.out) (by have := HL.out; omega)).mono ?_
  rintro e' w5 ⟨v5, rfl, hR, hb⟩
  rw [← HRL.out] at hR
  obtain ⟨A5, c5, rfl, hc5, hC5⟩ := Kd.R_reads hR
  have HB5 := Aside0.mk (below_then HB4.out HB4.out.size hb)
  have HC5 := Aside0.mk hC5
  clear hb HB4 hR hc5 hC5
  have hlm : rl.length = l.length := by rw [HRL.out, List.length_map]
  have HLM := Aside0.mk hlm
  rw [hlm]
  clear hlm
  have HL2 := Aside0.mk (show l.length ≤ 1000 from HL.out)
  go_wp2_with fail
  go_loopw [3, 4, 27] (fun v3 v4 v27 wr => ∃ (i : Nat) (t : ByteArray), i ≤ l.length ∧ v3 = .string t ∧ v4 = .bool (!dup) ∧ v27 = .int .i64 (i : Int) ∧ Aside0 (Below w0.heap.size w0 wr) ∧ Aside0 (Below w5.heap.size w5 wr) ∧ Aside0 (wantF may bytes (!dup) t (l.drop i) = (want, m1)) ∧ Aside0 (t.size ≤ 64 * i)) (fun _ _ v27 _ => l.length - (intOf v27).toNat)
  case atStart => exact ⟨0, _, Nat.zero_le _, rfl, rfl, rfl, HB5, ⟨Below.refl _ _⟩, HW, ⟨Nat.le_refl _⟩⟩
  case round =>
    obtain ⟨i, t, hi, rfl, rfl, rfl, HBi, HBk, HWi, HSZ⟩ := hrel
    clear HB5 HW
    by_cases hlt : i < l.length
    · have di : decide ((i : Int) < (l.length : Int)) = true := decide_eq_true (by omega)
      have dn : decide (i < l.length) = true := decide_eq_true hlt
      have h4 : (i : Int) < (rl.length : Int) := by rw [HLM.out]; omega
      obtain ⟨ad, eA, hx0, hx1⟩ := at_T32 (Kd.C_below HC5.out HBk.out) (i : Int) (by omega) h4
      subst eA
      rw [HRL.out, rdm l i hlt] at hx0 hx1
      have ht0 : (toRef l[i]).f0 = (l[i]).f0 := rfl
      have ht1 : (toRef l[i]).f1 = (l[i]).f1 := rfl
      rw [ht0] at hx0
      rw [ht1] at hx1
      clear ht0 ht1 h4
      have hw := HWi.out
      rw [List.drop_eq_getElem_cons hlt] at hw
      simp only [wantF] at hw
      have hm := HM.out l[i] (List.getElem_mem _)
      have he := HE.out l[i] (List.getElem_mem _)
      generalize may l[i] = mb at hw hm he
      generalize bytes l[i] = bs at hw he
      generalize (l[i]).f0 = s at hx0 hm he
      generalize (l[i]).f1 = n at hx1 hm he
      rw [Int.toNat_natCast] at hx0 hx1
      have HMM := Aside0.mk hm
      have HEE := Aside0.mk he
      have HWW := Aside0.mk hw
      clear hm he hw HWi
      have hi1 : IntKind.i64.wrap ((i : Int) + 1) = ((i + 1 : Nat) : Int) := by rw [i64_w]; exact Math.w64 (by have := HL2.out; omega) (by have := HL2.out; omega)
      go_wp2_with fail
      have HX := Aside0.mk (heap_alloc_new wr (.cells #[.string s, .int .i64 n] 32))
      have HB6 := Aside0.mk (below_alloc HBi.out (.cells #[.string s, .int .i64 n] 32))
      have HK6 := Aside0.mk (below_alloc HBk.out (.cells #[.string s, .int .i64 n] 32))
      generalize wr.alloc (.cells #[.string s, .int .i64 n] 32) = w6 at HX HB6 HK6 ⊢
      generalize wr.heap.size = g at HX ⊢
      clear hx0 hx1 HBi HBk
      refine (cantleref08_May.calls k s n mb _ HMM.out).mono ?_
      rintro e' w7 ⟨rfl, hb⟩
      have HX7 := Aside0.mk (blk_below HX.out hb)
      have HB7 := Aside0.mk (below_then HB6.out HB6.out.size hb)
      have HK7 := Aside0.mk (below_then HK6.out HK6.out.size hb)
      clear hb HX HB6 HK6
      have hq0 : w7.cell? ⟨g, 0, none⟩ = some (.string s) := (blk_cell HX7.out 0).trans rfl
      have hq1 : w7.cell? ⟨g, 1, none⟩ = some (.int .i64 n) := (blk_cell HX7.out 1).trans rfl
      cases mb
      · have hm1 := Prod.mk.inj (show (t, false) = (want, m1) from HWW.out)
        obtain ⟨rfl, rfl⟩ := hm1
        obtain ⟨rfl, rfl⟩ := HNO.out rfl
        clear HWW HEE HMM
        go_wp2_with fail
        refine (HJ.out w7 A1 c1 (Kd.C_below HR1.out HB7.out) HC1.out).mono ?_
        rintro e' w8 ⟨v8, rfl, hR, hb⟩
        obtain ⟨A8, c8, rfl, hc8, hC8⟩ := Kd.R_reads hR
        have HB8 := Aside0.mk (below_then HB7.out HB7.out.size hb)
        clear hb hR hc8 hC8
        go_wp2_with fail
        go_ret
        exact ⟨rfl, HB8.out⟩
      · obtain ⟨he, hbs⟩ := HEE.out rfl
        have HW2 := Aside0.mk (show wantF may bytes (!dup) (t ++ bs) (l.drop (i + 1)) = (want, m1) from HWW.out)
        have HES := Aside0.mk he
        have hle : t.size + bs.size ≤ 9223372036854775807 := by have := HSZ.out; have := HL2.out; omega
        have hsa : (t ++ bs).size ≤ 64 * (i + 1) := by rw [ByteArray.size_append]; have := HSZ.out; omega
        have HSA := Aside0.mk hsa
        have c2b0 := eq_true hle
        have c2b1 : decide (t.size + bs.size ≤ 9223372036854775807) = true := decide_eq_true hle
        have c2b2 : (9223372036854775807 < t.size + bs.size) = False := eq_false (Nat.not_lt.2 hle)
        clear hsa hle he hbs HWW HEE HMM
        go_wp2_with fail
        refine (cantleref08_Encode.calls k s n bs _ HES.out).mono ?_
        rintro e' w8 ⟨rfl, hb⟩
        have HB8 := Aside0.mk (below_then HB7.out HB7.out.size hb)
        have HK8 := Aside0.mk (below_then HK7.out HK7.out.size hb)
        clear hb hq0 hq1 HB7 HK7
        go_wp2_with fail
        go_roundw
        case rel => exact ⟨i + 1, t ++ bs, by omega, rfl, rfl, rfl, HB8, HK8, HW2, HSA⟩
        case measure => simp [intOf]; omega
    · obtain rfl : i = l.length := by omega
      have di : decide ((l.length : Int) < (l.length : Int)) = false := decide_eq_false (by omega)
      have hw := HWi.out
      rw [List.drop_length] at hw
      obtain ⟨rfl, rfl⟩ := Prod.mk.inj (show (t, !dup) = (want, m1) from hw)
      clear hw hlt HWi
      go_wp2_with fail
      refine (HJ.out wr A1 c1 (Kd.C_below HR1.out HBi.out) HC1.out).mono ?_
      rintro e' w8 ⟨v8, rfl, hR, hb⟩
      obtain ⟨A8, c8, rfl, hc8, hC8⟩ := Kd.R_reads hR
      have HB8 := Aside0.mk (below_then HBi.out HBi.out.size hb)
      have HC8 := Aside0.mk hC8
      have hc8' := Aside0.mk hc8
      clear hb hR hc8 hC8
      cases dup
      · obtain ⟨rfl, hst, hall⟩ := HYES.out rfl
        subst hst
        have HALL := Aside0.mk hall
        clear hall HBi
        go_wp2_with fail
        refine (HALL.out w8 A8 c8 HC8.out hc8'.out).mono ?_
        rintro e' w9 ⟨v9, rfl, hR, hb⟩
        obtain ⟨A9, c9, rfl, hc9, hC9⟩ := Kd.R_reads hR
        have HB9 := Aside0.mk (below_then HB8.out HB8.out.size hb)
        have hcv := Kd.C_string (P := Try.prog) (A := A8) (c := c8) Try.underlying22 Try.underlying5 Try.underlying9 (Kd.C_below HC8.out hb)
        have HC9 := Aside0.mk hC9
        clear hb hR hc9 hC9 HB8
        go_wp2_with fail
        clear hcv
        go_loopw [79] (fun v79 wr => ∃ i : Nat, i ≤ l.length ∧ v79 = .int .i64 (i : Int) ∧ Aside0 (Below w0.heap.size w0 wr) ∧ Aside0 (Below w9.heap.size w9 wr)) (fun v79 _ => l.length - (intOf v79).toNat)
        case atStart => exact ⟨0, Nat.zero_le _, rfl, HB9, ⟨Below.refl _ _⟩⟩
        case round =>
          obtain ⟨i, hi, rfl, HBi, HBk⟩ := hrel
          clear HB9
          by_cases hlt : i < l.length
          · have di : decide ((i : Int) < (l.length : Int)) = true := decide_eq_true (by omega)
            have dn : decide (i < l.length) = true := decide_eq_true hlt
            have hi0 : (0 ≤ (i : Int)) = True := eq_true (by omega)
            obtain ⟨ad3, eA, hx0, hx1⟩ := at_T33 (Kd.C_below HC9.out HBk.out) (i : Int) (by omega) (by omega)
            subst eA
            obtain ⟨ad4, eA, hy0, hy1⟩ := at_T33 (Kd.C_below HR1.out HBi.out) (i : Int) (by omega) (by omega)
            subst eA
            rw [rd33 l i hlt] at hx0 hx1 hy0 hy1
            generalize (l[i]).f0 = s at hx0 hy0
            generalize (l[i]).f1 = n at hx1 hy1
            rw [Int.toNat_natCast] at hx0 hx1 hy0 hy1
            have HX := Aside0.mk (And.intro hx0 (And.intro hx1 (And.intro hy0 hy1)))
            have hi1 : IntKind.i64.wrap ((i : Int) + 1) = ((i + 1 : Nat) : Int) := by rw [i64_w]; exact Math.w64 (by have := HL2.out; omega) (by have := HL2.out; omega)
            clear hx0 hx1 hy0 hy1
            go_upto_region 20 with fail
            refine Spec.wp_told (F := fun j => [0, 0, 3, 7, 0, 0, 48, 112, 255].getD j 0) (C := fun W => Below wr.heap.size wr W) (S := Spec.at_ [fun u W => u = .slice (some ad3) l.length c9, fun u W => u = .int .i64 (i : Int), fun u W => u = .pointer (some (ad3.add (i * 2))), fun u W => u = .agg #[.string s, .int .i64 n], fun u W => u = .slice (some ad4) l.length c1, fun u W => u = .int .i64 (i : Int), fun u W => u = .pointer (some (ad4.add (i * 2))), fun u W => u = .agg #[.string s, .int .i64 n], fun u W => u = .bool false]) (Kp := fun W W' => Below W.heap.size W W') (by kernel_rfl) (by kernel_rfl) (Spec.AllStay.at_ ?stay_20) ?start_20 ?ops_20 ?end_20
            case stay_20 =>
              exact ⟨fun _ _ _ _ h => h, fun _ _ _ _ h => h, fun _ _ _ _ h => h, fun _ _ _ _ h => h, fun _ _ _ _ h => h, fun _ _ _ _ h => h, fun _ _ _ _ h => h, fun _ _ _ _ h => h, fun _ _ _ _ h => h, trivial⟩
            case start_20 =>
              exact below_drew (Below.refl _ _)
            case ops_20 =>
              refine ⟨?_, ?_, ?_, ?_, ?_, ?_, ?_, ?_, ?_, trivial⟩
              · -- 0: Op.move (Operand.tmp 9)
                refine Spec.tell rfl fun v w hC hS ρ hρ K hK => ?_
                have r9 : ρ (.tmp 9) = .slice (some ad3) l.length c9 := (hρ _ (by simp [Op.operands])).trans (by kernel_rfl)
                clear hρ hS
                go_simp
                exact hK _ _ hC (Below.refl _ _) rfl
              · -- 1: Op.move (Operand.tmp 11)
                refine Spec.tell rfl fun v w hC hS ρ hρ K hK => ?_
                have r11 : ρ (.tmp 11) = .int .i64 (i : Int) := (hρ _ (by simp [Op.operands])).trans (by kernel_rfl)
                clear hρ hS
                go_simp
                exact hK _ _ hC (Below.refl _ _) rfl
              · -- 2: Op.indexAddr 24 (Operand.tmp 82) (Operand.tmp 83)
                refine Spec.tell rfl fun v w hC hS ρ hρ K hK => ?_
                have s0 : v 0 = .slice (some ad3) l.length c9 := hS 0 rfl
                have s1 : v 1 = .int .i64 (i : Int) := hS 1 rfl
                have r82 : ρ (.tmp 82) = .slice (some ad3) l.length c9 := ((hρ _ (by simp [Op.operands])).trans (by kernel_rfl : Spec.look _ _ _ v (.tmp 82) = v 0)).trans s0
                have r83 : ρ (.tmp 83) = .int .i64 (i : Int) := ((hρ _ (by simp [Op.operands])).trans (by kernel_rfl : Spec.look _ _ _ v (.tmp 83) = v 1)).trans s1
                clear hρ hS
                go_simp
                exact hK _ _ hC (Below.refl _ _) rfl
              · -- 3: Op.load 33 (Operand.tmp 84)
                refine Spec.tell rfl fun v w hC hS ρ hρ K hK => ?_
                have s2 : v 2 = .pointer (some (ad3.add (i * 2))) := hS 2 rfl
                have r84 : ρ (.tmp 84) = .pointer (some (ad3.add (i * 2))) := ((hρ _ (by simp [Op.operands])).trans (by kernel_rfl : Spec.look _ _ _ v (.tmp 84) = v 2)).trans s2
                clear hρ hS
                have q0 := (hC.cell (World.block_lt_of_cell? wr _ HX.out.1)).trans HX.out.1
                have q1 := (hC.cell (World.block_lt_of_cell? wr _ HX.out.2.1)).trans HX.out.2.1
                go_simp
                exact hK _ _ hC (Below.refl _ _) rfl
              · -- 4: Op.move (Operand.tmp 0)
                refine Spec.tell rfl fun v w hC hS ρ hρ K hK => ?_
                have r0 : ρ (.tmp 0) = .slice (some ad4) l.length c1 := (hρ _ (by simp [Op.operands])).trans (by kernel_rfl)
                clear hρ hS
                go_simp
                exact hK _ _ hC (Below.refl _ _) rfl
              · -- 5: Op.move (Operand.tmp 11)
                refine Spec.tell rfl fun v w hC hS ρ hρ K hK => ?_
                have r11 : ρ (.tmp 11) = .int .i64 (i : Int) := (hρ _ (by simp [Op.operands])).trans (by kernel_rfl)
                clear hρ hS
                go_simp
                exact hK _ _ hC (Below.refl _ _) rfl
              · -- 6: Op.indexAddr 24 (Operand.tmp 86) (Operand.tmp 87)
                refine Spec.tell rfl fun v w hC hS ρ hρ K hK => ?_
                have s4 : v 4 = .slice (some ad4) l.length c1 := hS 4 rfl
                have s5 : v 5 = .int .i64 (i : Int) := hS 5 rfl
                have r86 : ρ (.tmp 86) = .slice (some ad4) l.length c1 := ((hρ _ (by simp [Op.operands])).trans (by kernel_rfl : Spec.look _ _ _ v (.tmp 86) = v 4)).trans s4
                have r87 : ρ (.tmp 87) = .int .i64 (i : Int) := ((hρ _ (by simp [Op.operands])).trans (by kernel_rfl : Spec.look _ _ _ v (.tmp 87) = v 5)).trans s5
                clear hρ hS
                go_simp
                exact hK _ _ hC (Below.refl _ _) rfl
              · -- 7: Op.load 33 (Operand.tmp 88)
                refine Spec.tell rfl fun v w hC hS ρ hρ K hK => ?_
                have s6 : v 6 = .pointer (some (ad4.add (i * 2))) := hS 6 rfl
                have r88 : ρ (.tmp 88) = .pointer (some (ad4.add (i * 2))) := ((hρ _ (by simp [Op.operands])).trans (by kernel_rfl : Spec.look _ _ _ v (.tmp 88) = v 6)).trans s6
                clear hρ hS
                have q0 := (hC.cell (World.block_lt_of_cell? wr _ HX.out.2.2.1)).trans HX.out.2.2.1
                have q1 := (hC.cell (World.block_lt_of_cell? wr _ HX.out.2.2.2)).trans HX.out.2.2.2
                go_simp
                exact hK _ _ hC (Below.refl _ _) rfl
              · -- 8: Op.binOp BinOp.neq 33 (Operand.tmp 85) (Operand.tmp 89) 33
                refine Spec.tell rfl fun v w hC hS ρ hρ K hK => ?_
                have s3 : v 3 = .agg #[.string s, .int .i64 n] := hS 3 rfl
                have s7 : v 7 = .agg #[.string s, .int .i64 n] := hS 7 rfl
                have r85 : ρ (.tmp 85) = .agg #[.string s, .int .i64 n] := ((hρ _ (by simp [Op.operands])).trans (by kernel_rfl : Spec.look _ _ _ v (.tmp 85) = v 3)).trans s3
                have r89 : ρ (.tmp 89) = .agg #[.string s, .int .i64 n] := ((hρ _ (by simp [Op.operands])).trans (by kernel_rfl : Spec.look _ _ _ v (.tmp 89) = v 7)).trans s7
                clear hρ hS
                go_simp
                exact hK _ _ hC (Below.refl _ _) rfl
            case end_20 =>
              intro v w' hC hS
              have s8 : v 8 = .bool false := hS 8 (by decide)
              clear hS
              simp only [Spec.putAll, Act.put, List.setIfInBounds_toArray, List.set_cons_zero, List.set_cons_succ]
              generalize v 0 = x0
              generalize v 1 = x1
              generalize v 2 = x2
              generalize v 3 = x3
              generalize v 4 = x4
              generalize v 5 = x5
              generalize v 6 = x6
              generalize v 7 = x7
              rw [s8]; clear s8
              have HBi2 := Aside0.mk (below_then HBi.out HBi.out.size hC)
              have HBk2 := Aside0.mk (below_then HBk.out HBk.out.size hC)
              clear hC
              go_wp2_with fail
              go_roundw
              case rel => exact ⟨i + 1, by omega, rfl, HBi2, HBk2⟩
              case measure => simp [intOf]; omega
          · obtain rfl : i = l.length := by omega
            have di : decide ((l.length : Int) < (l.length : Int)) = false := decide_eq_false (by omega)
            clear hlt
            go_wp2_with fail
            go_ret
            exact ⟨rfl, HBi.out⟩
      · obtain ⟨rfl, rfl⟩ := HNO.out rfl
        go_wp2_with fail
        go_ret
        exact ⟨rfl, HB8.out⟩
end Go.Proofs.Ytfkfpeiocdjniaa.PAll
