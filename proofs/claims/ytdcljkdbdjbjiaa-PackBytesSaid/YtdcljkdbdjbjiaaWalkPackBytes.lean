/- PackBytes: the walk through the law function, by hand. Conditions: as each lemma says. -/
import Derived.Test.YtdcljkdbdjbjiaaPkW
import Derived.Test.YtdcljkdbdjbjiaaSpec
import Derived.Deep.QuietTactic
import Derived.BigQuiet
namespace Go.Proofs.Ytdcljkdbdjbjiaa.Pk
open Go.RowKit Go.Proofs.Ytdcljkdbdjbjiaa.PPackBytes Go.Proofs.YtdcljkdbdjbjiaaW.PrintWords Go.Proofs.YtdcljkdbdjbjiaaW.PrintLast Go.Proofs.YtdcljkdbdjbjiaaW.PrintMore
set_option linter.unusedVariables false
theorem lives11 (w : World) : Calls Try.prog 11 #[] w fun e w' => e = .returned (.bool true) ∧ Below w.heap.size w w' :=
  cantlelaw03_Lives.calls 20 true w (by decide +kernel)
theorem C_at {k : IntKind} {W : World} {A : Option Addr} {xs : List Int} (h : (Kd.int k).C W A xs.length xs) (i : Nat) (hi : i < xs.length) : ∃ ad, A = some ad ∧ W.cell? (ad.add i) = some (.int k (rd xs (i : Int))) := by
  obtain ⟨ad, e, hc⟩ := (readsInt_of.2 (Kd.reads_of_C (d := (0 : Int)) h)).at_ (i : Int) (by omega) (by omega)
  exact ⟨ad, e, by simpa using hc⟩
theorem bytes_long (w0 : World) (A0 : Option Addr) (c0 : Nat) (l : List Int) (A1 : Option Addr) (c1 : Nat) (b : List Int) (hl : 60 < l.length) :
    Calls Try.prog 9 #[.slice A0 l.length c0, .slice A1 b.length c1] w0 fun e w' => e = .returned (.bool true) ∧ Below w0.heap.size w0 w' := by
  have d : decide (60 < (l.length : Int)) = true := decide_eq_true (by omega)
  clear hl
  go_enter Try.func9, Try.ntmps9
  go_wp2_with fail
  refine (lives11 _).mono ?_
  rintro e w1 ⟨rfl, hb⟩
  have HB1 := Aside0.mk hb
  clear hb
  go_wp2_with fail
  refine (lives11 _).mono ?_
  rintro e w2 ⟨rfl, hb⟩
  have HB2 := Aside0.mk (below_then HB1.out HB1.out.size hb)
  clear hb
  go_wp2_with fail
  go_ret
  exact ⟨rfl, HB2.out⟩
theorem bytes_long2 (w0 : World) (A0 : Option Addr) (c0 : Nat) (l : List Int) (A1 : Option Addr) (c1 : Nat) (b : List Int) (hl : l.length ≤ 60) (hb : 400 < b.length) :
    Calls Try.prog 9 #[.slice A0 l.length c0, .slice A1 b.length c1] w0 fun e w' => e = .returned (.bool true) ∧ Below w0.heap.size w0 w' := by
  have d : decide (60 < (l.length : Int)) = false := decide_eq_false (by omega)
  have d2 : decide (400 < (b.length : Int)) = true := decide_eq_true (by omega)
  clear hl hb
  go_enter Try.func9, Try.ntmps9
  go_wp2_with fail
  refine (lives11 _).mono ?_
  rintro e w1 ⟨rfl, hb⟩
  have HB1 := Aside0.mk hb
  clear hb
  go_wp2_with fail
  refine (lives11 _).mono ?_
  rintro e w2 ⟨rfl, hb⟩
  have HB2 := Aside0.mk (below_then HB1.out HB1.out.size hb)
  clear hb
  go_wp2_with fail
  go_ret
  exact ⟨rfl, HB2.out⟩
set_option maxRecDepth 100000 in
set_option maxHeartbeats 8000000 in
theorem bytes_short (F : Nat) (w0 : World) (A0 : Option Addr) (c0 : Nat) (l : List Int) (A1 : Option Addr) (c1 : Nat) (b : List Int) (hl : l.length ≤ 60) (hb : b.length ≤ 400)
    (hr0 : Kd.C (Kd.int .u64) w0 A0 l.length l) (hc0 : l.length ≤ c0) (hr1 : Kd.C (Kd.int .u8) w0 A1 b.length b) (hc1 : b.length ≤ c1) (oct wd bz : List Int) (Q : Nat) (h8 : oct.length = 8 * l.length) (hz : oct.length ≤ 480)
    (f1 : pack_Bytes.f F l = some oct) (f2 : cantleref02_Bytes.f F l = some (strOfNums oct)) (f3 : pack_Words.f F oct = some l) (f4 : cantlelaw03_Same.f F l l = some true)
    (f5 : pack_Words.f F b = some wd) (f6 : cantleref03_Words.f F (strOfNums b) = some wd) (f7 : cantlelaw03_Same.f F wd wd = some true) (f8 : pack_Bytes.f F wd = some bz) (hQ : (b.length + 7) / 8 = Q) (hzl : bz.length = Q * 8) (hzt : bz.take b.length = b) (hzd : ∀ x ∈ bz.drop b.length, x = 0) :
    Calls Try.prog 9 #[.slice A0 l.length c0, .slice A1 b.length c1] w0 fun e w' => e = .returned (.bool true) ∧ Below w0.heap.size w0 w' := by
  have d : decide (60 < (l.length : Int)) = false := decide_eq_false (by omega)
  have d2 : decide (400 < (b.length : Int)) = false := decide_eq_false (by omega)
  have HL := Aside0.mk (And.intro hl (And.intro hb (And.intro h8 (And.intro hz (And.intro hQ (And.intro hzl (And.intro hzt hzd)))))))
  have HF := Aside0.mk (And.intro f1 (And.intro f2 (And.intro f3 (And.intro f4 (And.intro f5 (And.intro f6 (And.intro f7 f8)))))))
  have HR0 := Aside0.mk hr0
  have HC0 := Aside0.mk hc0
  have HR1 := Aside0.mk hr1
  have HC1 := Aside0.mk hc1
  clear hl hb h8 hz hQ hzl hzt hzd f1 f2 f3 f4 f5 f6 f7 f8 hr0 hc0 hr1 hc1
  go_enter Try.func9, Try.ntmps9
  go_wp2_with fail
  refine (lives11 _).mono ?_
  rintro e w1 ⟨rfl, hb⟩
  have HB := Aside0.mk hb
  clear hb
  go_upto_region 5 with (first
    | ((with_reducible refine gate_dst (N := 24) rfl ?_); (try (refine gate_guard (by rfl) ?_; dsimp only)); refine Kd.R_lit (Kd.int .u8) _ 5 ?hg (N := 24) ?hd (xs := ([] : List Int)) (inner := []) (ok := fun _ => True) (okp := fun _ => True) ?hr ?hp (fun _ hk => hk) trivial (Below.refl _ _) (Nat.le_refl _) (by simp) ?_; (case hd => rfl); (case hg => rfl); (case hr => first | (go_simp; done) | (go_simp; rfl)); (case hp => exact (Reps.none _ _)); intro v147 w16 ho17 hb hg_ hnew_; clear hg_ hnew_; have n0_ := Aside0.mk (Kd.R_lower ho17 (below_size HB.out)); have n1_ := Aside0.mk (below_step HB.out hb); clear HB; have HO148 := n0_; have HB := n1_; clear n0_ n1_; clear hb ho17)
    | ((with_reducible refine gate_builtin (b := .append) (xs := #[.tmp 24, .tmp 25]) rfl ?_); (try (refine gate_guard (by rfl) ?_; dsimp only)); at_builtin; refine Kd.R_append_rows (Kd.int .u8) (w0 := w0) w0.heap.size rfl (.tmp 24) (.tmp 25) 41 5 (.int .u8 0) 1 rfl Try.underlying41 info5 rfl (by decide) (by omega) v147 [] b _ _ _ (fun _ => True) (fun _ => False) rfl rfl ?aO ?aR (fun _ _ h => h) (fun _ h => h.elim) ?aF ?aB ?aS ?aL ?_; (case aR => exact (Kd.C_below HR1.out HB.out)); (case aB => exact HB.out); (case aF => exact (fun _ _ => trivial)); (case aO => exact HO148.out); (case aS => exact (below_size HB.out)); (case aL => (have := HL.out.2.1; simp; omega)); intro v150 w18 ho hb hg hat; rw [List.nil_append] at ho; have n0_ := Aside0.mk (hb); have n1_ := Aside0.mk (ho); clear HB; clear HO148; have HB := n0_; have HO151 := n1_; clear n0_ n1_; clear ho hb hg hat)
    | ((with_reducible refine gate_callee (f := 23) rfl ?_); refine goesL_ (some 28) rfl rfl Try.func23 (by kernel_rfl) rfl #[.slice A0 l.length c0] rfl (by (try simp only [List.map_toArray, List.map_cons, List.map_nil]); first | done | rfl) ?_; (with_reducible refine (pack_Bytes.calls F _ _ l oct _ ?side1 ?side2 HF.out.1).mono ?_); (case side1 => exact (Kd.C_below HR0.out HB.out)); (case side2 => exact HC0.out); rintro e w19 ⟨v153, rfl, ho0, hb⟩; refine ⟨_, rfl, ?_⟩; have n0_ := Aside0.mk (Kd.R_elder' HO151.out (Kd.R_base ho0) hb); have n1_ := Aside0.mk (ho0); have n2_ := Aside0.mk (below_step HB.out hb); clear HO151; clear HB; have HO151 := n0_; have HO154 := n1_; have HB := n2_; clear n0_ n1_ n2_; clear hb ho0))
  obtain ⟨A5, c5, rfl, hc5, hC5⟩ := Kd.R_reads HO151.out
  obtain ⟨A6, c6, rfl, hc6, hC6⟩ := Kd.R_reads HO154.out
  have HR01 := Aside0.mk (Kd.C_below HR0.out HB.out)
  have HR11 := Aside0.mk (Kd.C_below HR1.out HB.out)
  have HR5 := Aside0.mk hC5
  have HR6 := Aside0.mk hC6
  have HC5 := Aside0.mk hc5
  have HC6 := Aside0.mk hc6
  clear HO151 HO154 HR0 HR1 hC5 hC6 hc5 hc6
  refine Spec.wp_told (F := fun j => [0, 1, 0, 4, 15, 31, 63, 127, 63, 511, 1023, 2047].getD j 0) (C := fun W => Below w19.heap.size w19 W) (S := Spec.at_ [fun u W => u = .slice A6 oct.length c6, fun u W => u = .string (strOfNums oct), fun u W => u = .slice A0 l.length c0, fun u W => u = .string (strOfNums oct), fun u W => u = .bool false, fun u W => u = .bool false, fun u W => u = .slice A6 oct.length c6, fun u W => ∃ A c, u = .slice A l.length c ∧ l.length ≤ c ∧ Kd.C (Kd.int .u64) W A l.length l, fun u W => u = .slice A0 l.length c0, fun u W => u = .bool true, fun u W => u = .bool false, fun u W => u = .bool false]) (Kp := fun W W' => Below W.heap.size W W') (by kernel_rfl) (by kernel_rfl) (Spec.AllStay.at_ ?stay_5) ?start_5 ?ops_5 ?end_5
  case stay_5 =>
    exact ⟨fun _ _ _ _ h => h, fun _ _ _ _ h => h, fun _ _ _ _ h => h, fun _ _ _ _ h => h, fun _ _ _ _ h => h, fun _ _ _ _ h => h, fun _ _ _ _ h => h, fun _ _ _ hk ⟨A, c, e, h1, h⟩ => ⟨A, c, e, h1, Kd.C_below h hk⟩, fun _ _ _ _ h => h, fun _ _ _ _ h => h, fun _ _ _ _ h => h, fun _ _ _ _ h => h, trivial⟩
  case start_5 =>
    exact below_drew (Below.refl _ _)
  case ops_5 =>
    refine ⟨?_, ?_, ?_, ?_, ?_, ?_, ?_, ?_, ?_, ?_, ?_, ?_, trivial⟩
    · -- 0: Op.move (Operand.tmp 6)
      refine Spec.tell rfl fun v w hC hS ρ hρ K hK => ?_
      have r6 : ρ (.tmp 6) = .slice A6 oct.length c6 := (hρ _ (by simp [Op.operands])).trans (by kernel_rfl)
      clear hρ hS
      go_simp
      exact hK _ _ hC (Below.refl _ _) rfl
    · -- 1: Op.convert 41 9 (Operand.tmp 29)
      refine Spec.tell rfl fun v w hC hS ρ hρ K hK => ?_
      have s0 : v 0 = .slice A6 oct.length c6 := hS 0 rfl
      have r29 : ρ (.tmp 29) = .slice A6 oct.length c6 := ((hρ _ (by simp [Op.operands])).trans (by kernel_rfl : Spec.look _ _ _ v (.tmp 29) = v 0)).trans s0
      clear hρ hS
      have hcv := Kd.C_string (P := Try.prog) (A := A6) (c := c6) Try.underlying41 Try.underlying5 Try.underlying9 (Kd.C_below HR6.out hC)
      go_simp
      exact hK _ _ hC (Below.refl _ _) rfl
    · -- 2: Op.move (Operand.tmp 0)
      refine Spec.tell rfl fun v w hC hS ρ hρ K hK => ?_
      have r0 : ρ (.tmp 0) = .slice A0 l.length c0 := (hρ _ (by simp [Op.operands])).trans (by kernel_rfl)
      clear hρ hS
      go_simp
      exact hK _ _ hC (Below.refl _ _) rfl
    · -- 3: Op.call { callee := Callee.value (Operand.func 24), args := #[Operand.tmp 31], argTypes :=
      refine Spec.tell rfl fun v w hC hS ρ hρ K hK => ?_
      have s2 : v 2 = .slice A0 l.length c0 := hS 2 rfl
      have r31 : ρ (.tmp 31) = .slice A0 l.length c0 := ((hρ _ (by simp [Op.operands, Call.operands])).trans (by kernel_rfl : Spec.look _ _ _ v (.tmp 31) = v 2)).trans s2
      have f24 : ρ (.func 24) = .func (.func 24) #[] #[] := (hρ _ (by simp [Op.operands, Call.operands])).trans (by kernel_rfl)
      clear hρ hS
      go_simp
      exact (cantleref02_Bytes.calls F A0 c0 l _ _ (Kd.C_below HR01.out hC) HC0.out HF.out.2.1).mono fun e w' ⟨h1, h2⟩ => ⟨_, h1, hK _ _ (below_then hC hC.size h2) h2 rfl⟩
    · -- 4: Op.binOp BinOp.neq 9 (Operand.tmp 30) (Operand.tmp 32) 9
      refine Spec.tell rfl fun v w hC hS ρ hρ K hK => ?_
      have s1 : v 1 = .string (strOfNums oct) := hS 1 rfl
      have s3 : v 3 = .string (strOfNums oct) := hS 3 rfl
      have r30 : ρ (.tmp 30) = .string (strOfNums oct) := ((hρ _ (by simp [Op.operands])).trans (by kernel_rfl : Spec.look _ _ _ v (.tmp 30) = v 1)).trans s1
      have r32 : ρ (.tmp 32) = .string (strOfNums oct) := ((hρ _ (by simp [Op.operands])).trans (by kernel_rfl : Spec.look _ _ _ v (.tmp 32) = v 3)).trans s3
      clear hρ hS
      go_simp
      exact hK _ _ hC (Below.refl _ _) rfl
    · -- 5: Op.move (Operand.tmp 33)
      refine Spec.tell rfl fun v w hC hS ρ hρ K hK => ?_
      have s4 : v 4 = .bool false := hS 4 rfl
      have r33 : ρ (.tmp 33) = .bool false := ((hρ _ (by simp [Op.operands])).trans (by kernel_rfl : Spec.look _ _ _ v (.tmp 33) = v 4)).trans s4
      clear hρ hS
      go_simp
      exact hK _ _ hC (Below.refl _ _) rfl
    · -- 6: Op.move (Operand.tmp 6)
      refine Spec.tellG 5 false rfl (fun v w hC hS hG ρ hρ K hK => ?_) (fun v w hC hS hG => ?_)
      · have s5 : v 5 = .bool false := hS 5 rfl
        have r6 : ρ (.tmp 6) = .slice A6 oct.length c6 := (hρ _ (by simp [Op.operands])).trans (by kernel_rfl)
        clear hρ hS
        go_simp
        exact hK _ _ hC (Below.refl _ _) rfl
      · have s5 : v 5 = .bool false := hS 5 rfl
        exact absurd s5 hG
    · -- 7: Op.call { callee := Callee.value (Operand.func 25), args := #[Operand.tmp 35], argTypes :=
      refine Spec.tellG 5 false rfl (fun v w hC hS hG ρ hρ K hK => ?_) (fun v w hC hS hG => ?_)
      · have s5 : v 5 = .bool false := hS 5 rfl
        have s6 : v 6 = .slice A6 oct.length c6 := hS 6 rfl
        have r35 : ρ (.tmp 35) = .slice A6 oct.length c6 := ((hρ _ (by simp [Op.operands, Call.operands])).trans (by kernel_rfl : Spec.look _ _ _ v (.tmp 35) = v 6)).trans s6
        have f25 : ρ (.func 25) = .func (.func 25) #[] #[] := (hρ _ (by simp [Op.operands, Call.operands])).trans (by kernel_rfl)
        clear hρ hS
        go_simp
        exact (pack_Words.calls F A6 c6 oct l _ (Kd.C_below HR6.out hC) HC6.out HF.out.2.2.1).mono fun e w' ⟨v, h1, hR, h2⟩ => ⟨v, h1, hK _ _ (below_then hC hC.size h2) h2 (Kd.R_reads hR)⟩
      · have s5 : v 5 = .bool false := hS 5 rfl
        have s6 : v 6 = .slice A6 oct.length c6 := hS 6 rfl
        exact absurd s5 hG
    · -- 8: Op.move (Operand.tmp 0)
      refine Spec.tellG 5 false rfl (fun v w hC hS hG ρ hρ K hK => ?_) (fun v w hC hS hG => ?_)
      · have s5 : v 5 = .bool false := hS 5 rfl
        have r0 : ρ (.tmp 0) = .slice A0 l.length c0 := (hρ _ (by simp [Op.operands])).trans (by kernel_rfl)
        clear hρ hS
        go_simp
        exact hK _ _ hC (Below.refl _ _) rfl
      · have s5 : v 5 = .bool false := hS 5 rfl
        exact absurd s5 hG
    · -- 9: Op.call { callee := Callee.value (Operand.func 15), args := #[Operand.tmp 36, Operand.tmp 
      refine Spec.tellG 5 false rfl (fun v w hC hS hG ρ hρ K hK => ?_) (fun v w hC hS hG => ?_)
      · have s5 : v 5 = .bool false := hS 5 rfl
        have s7 : ∃ A c, v 7 = .slice A l.length c ∧ l.length ≤ c ∧ Kd.C (Kd.int .u64) w A l.length l := hS 7 rfl
        obtain ⟨A7, c7, e7, hc7, b7⟩ := s7
        have s8 : v 8 = .slice A0 l.length c0 := hS 8 rfl
        have r36 := ((hρ (.tmp 36) (by simp [Op.operands, Call.operands])).trans (by kernel_rfl : Spec.look _ _ _ v (.tmp 36) = v 7)).trans e7
        have r37 : ρ (.tmp 37) = .slice A0 l.length c0 := ((hρ _ (by simp [Op.operands, Call.operands])).trans (by kernel_rfl : Spec.look _ _ _ v (.tmp 37) = v 8)).trans s8
        have f15 : ρ (.func 15) = .func (.func 15) #[] #[] := (hρ _ (by simp [Op.operands, Call.operands])).trans (by kernel_rfl)
        clear hρ hS
        go_simp
        exact (cantlelaw03_Same.calls F A7 c7 l A0 c0 l true _ b7 hc7 (Kd.C_below HR01.out hC) HC0.out HF.out.2.2.2.1).mono fun e w' ⟨h1, h2⟩ => ⟨_, h1, hK _ _ (below_then hC hC.size h2.below) h2.below rfl⟩
      · have s5 : v 5 = .bool false := hS 5 rfl
        have s7 : ∃ A c, v 7 = .slice A l.length c ∧ l.length ≤ c ∧ Kd.C (Kd.int .u64) w A l.length l := hS 7 rfl
        obtain ⟨A7, c7, e7, hc7, b7⟩ := s7
        have s8 : v 8 = .slice A0 l.length c0 := hS 8 rfl
        exact absurd s5 hG
    · -- 10: Op.unOp UnOp.not 4 (Operand.tmp 38)
      refine Spec.tellG 5 false rfl (fun v w hC hS hG ρ hρ K hK => ?_) (fun v w hC hS hG => ?_)
      · have s5 : v 5 = .bool false := hS 5 rfl
        have s9 : v 9 = .bool true := hS 9 rfl
        have r38 : ρ (.tmp 38) = .bool true := ((hρ _ (by simp [Op.operands])).trans (by kernel_rfl : Spec.look _ _ _ v (.tmp 38) = v 9)).trans s9
        clear hρ hS
        go_simp
        exact hK _ _ hC (Below.refl _ _) rfl
      · have s5 : v 5 = .bool false := hS 5 rfl
        have s9 : v 9 = .bool true := hS 9 rfl
        exact absurd s5 hG
    · -- 11: Op.pick (Operand.tmp 34) (Operand.const (Value.bool true)) (Operand.tmp 39)
      refine Spec.tell rfl fun v w hC hS ρ hρ K hK => ?_
      have s5 : v 5 = .bool false := hS 5 rfl
      have s10 : v 10 = .bool false := hS 10 rfl
      have r34 : ρ (.tmp 34) = .bool false := ((hρ _ (by simp [Op.operands])).trans (by kernel_rfl : Spec.look _ _ _ v (.tmp 34) = v 5)).trans s5
      have r39 : ρ (.tmp 39) = .bool false := ((hρ _ (by simp [Op.operands])).trans (by kernel_rfl : Spec.look _ _ _ v (.tmp 39) = v 10)).trans s10
      have c0 : ρ (.const (Value.bool true)) = (Value.bool true) := (hρ _ (by simp [Op.operands])).trans (by kernel_rfl)
      clear hρ hS
      go_simp
      exact hK _ _ hC (Below.refl _ _) rfl
  case end_5 =>
    intro v w' hC hS
    have s11 : v 11 = .bool false := hS 11 (by decide)
    clear hS
    simp only [Spec.putAll, Act.put, List.setIfInBounds_toArray, List.set_cons_zero, List.set_cons_succ]
    generalize v 0 = x0
    generalize v 1 = x1
    generalize v 2 = x2
    generalize v 3 = x3
    generalize v 4 = x4
    generalize v 5 = x5
    generalize v 6 = x6
    generalize v 7 = x7
    generalize v 8 = x8
    generalize v 9 = x9
    generalize v 10 = x10
    rw [s11]; clear s11
    go_wp2_with fail
    refine (pack_Words.calls F A5 c5 b wd _ (Kd.C_below HR5.out hC) HC5.out HF.out.2.2.2.2.1).mono ?_
    rintro e w7 ⟨v7, rfl, hR7, hb⟩
    obtain ⟨A7, c7, rfl, hc7, hC7⟩ := Kd.R_reads hR7
    have HB7 := Aside0.mk (below_then hC hC.size hb)
    have HR7 := Aside0.mk hC7
    have HC7 := Aside0.mk hc7
    clear hC7 hc7 hR7 hb hC
    have hcv := Kd.C_string (P := Try.prog) (A := A1) (c := c1) Try.underlying41 Try.underlying5 Try.underlying9 (Kd.C_below HR11.out HB7.out)
    go_wp2_with fail
    clear hcv
    refine (cantleref03_Words.calls F _ wd _ HF.out.2.2.2.2.2.1).mono ?_
    rintro e w8 ⟨v8, rfl, hR8, hb⟩
    obtain ⟨A8, c8, rfl, hc8, hC8⟩ := Kd.R_reads hR8
    have HB8 := Aside0.mk (below_then HB7.out HB7.out.size hb)
    have HR78 := Aside0.mk (Kd.C_below HR7.out hb)
    have HR8 := Aside0.mk hC8
    have HC8 := Aside0.mk hc8
    clear hC8 hc8 hR8 hb HB7 HR7
    go_wp2_with fail
    refine (cantlelaw03_Same.calls F A7 c7 wd A8 c8 wd true _ HR78.out HC7.out HR8.out HC8.out HF.out.2.2.2.2.2.2.1).mono ?_
    rintro e w9 ⟨rfl, hb⟩
    have HB9 := Aside0.mk (below_then HB8.out HB8.out.size hb.below)
    have HR79 := Aside0.mk (Kd.C_below HR78.out hb.below)
    clear hb HB8 HR78 HR8 HC8
    have hcv := Kd.C_string (P := Try.prog) (A := A1) (c := c1) Try.underlying41 Try.underlying5 Try.underlying9 (Kd.C_below HR11.out HB9.out)
    have hcv5 := Kd.C_string (P := Try.prog) (A := A5) (c := c5) Try.underlying41 Try.underlying5 Try.underlying9 (Kd.C_below HR5.out HB9.out)
    go_wp2_with fail
    clear hcv hcv5
    refine (pack_Bytes.calls F A7 c7 wd bz _ HR79.out HC7.out HF.out.2.2.2.2.2.2.2).mono ?_
    rintro e w10 ⟨v10, rfl, hR10, hb⟩
    obtain ⟨A9, c9, rfl, hc9, hC9⟩ := Kd.R_reads hR10
    have HB10 := Aside0.mk (below_then HB9.out HB9.out.size hb)
    have HR10 := Aside0.mk hC9
    have HC10 := Aside0.mk hc9
    clear hC9 hc9 hR10 hb HB9 HR79
    go_wp2_with fail
    obtain ⟨i0, hi0, _, hsz0⟩ := info_parts info5
    have hbl : b.length ≤ bz.length := by have := HL.out; omega
    have hcT := cut_to (P := Try.prog) 41 5 .i64 Try.underlying41 hi0 A9 bz.length c9 (b.length : Int) (by omega) (by omega) HC10.out
    rw [Int.toNat_natCast] at hcT
    have hcF := cut_from (P := Try.prog) 41 5 .i64 Try.underlying41 hi0 1 hsz0.1 A9 bz.length c9 (b.length : Int) (by omega) (by omega)
    rw [Int.toNat_natCast] at hcF
    have CT := Kd.C_take (m := b.length) HR10.out hbl
    rw [HL.out.2.2.2.2.2.2.1] at CT
    have CF := Kd.C_drop (m := b.length) (c := c9) HR10.out hbl HC10.out
    have hcf : (if c9 = b.length then A9 else A9.map (·.add (b.length * (Kd.int .u8).sz))) = (if c9 = b.length then A9 else A9.map (·.add (b.length * 1))) := rfl
    rw [hcf] at CF
    clear hcf
    have hz0 := HL.out.2.2.2.2.2.2.2
    have ez : bz.length - b.length = (bz.drop b.length).length := List.length_drop.symm
    rw [ez] at hcF
    have hzl7 : (bz.drop b.length).length ≤ 7 := by rw [List.length_drop]; have := HL.out; omega
    generalize bz.drop b.length = z at CF hz0 hcF hzl7
    generalize (if c9 = b.length then A9 else A9.map (·.add (b.length * 1))) = AF at CF hcF
    have HCT := Aside0.mk CT
    have HCF := Aside0.mk CF
    have HZ := Aside0.mk (And.intro hz0 hzl7)
    have HcF := Aside0.mk hcF
    have e4 : IntKind.i64.wrap ((b.length : Int) + 7) = (b.length : Int) + 7 := by rw [IntKind.wrap_i64]; have := HL.out; omega
    have e5 : Int.tdiv ((b.length : Int) + 7) 8 = (Q : Int) := by rw [Int.tdiv_eq_ediv_of_nonneg (by omega)]; have := HL.out; omega
    have e5' : IntKind.i64.wrap (Q : Int) = (Q : Int) := by rw [IntKind.wrap_i64]; have := HL.out; omega
    have e6 : IntKind.i64.wrap ((Q : Int) * 8) = (bz.length : Int) := by rw [IntKind.wrap_i64]; have := HL.out; omega
    have H4 := Aside0.mk e4
    have H5 := Aside0.mk e5
    have H5' := Aside0.mk e5'
    have H6 := Aside0.mk e6
    have HcT := Aside0.mk hcT
    clear CT CF hz0 hzl7 hcF hbl ez hi0 hsz0 e4 e5 e5' e6 hcT
    refine Spec.wp_told (F := fun j => [0, 1, 0, 4, 12, 28, 60, 127, 255, 511, 511, 1535, 4095, 8191, 511, 16895, 65535, 131071].getD j 0) (C := fun W => Below w10.heap.size w10 W) (S := Spec.at_ [fun u W => u = .slice A9 bz.length c9, fun u W => u = .int .i64 (bz.length : Int), fun u W => u = .slice A1 b.length c1, fun u W => u = .int .i64 (b.length : Int), fun u W => u = .int .i64 ((b.length : Int) + 7), fun u W => u = .int .i64 (Q : Int), fun u W => u = .int .i64 (bz.length : Int), fun u W => u = .bool false, fun u W => u = .bool false, fun u W => u = .slice A9 bz.length c9, fun u W => u = .slice A1 b.length c1, fun u W => u = .int .i64 (b.length : Int), fun u W => u = .slice A9 b.length c9, fun u W => u = .string (strOfNums b), fun u W => u = .slice A1 b.length c1, fun u W => u = .string (strOfNums b), fun u W => u = .bool false, fun u W => u = .bool false]) (Kp := fun W W' => Below W.heap.size W W') (by kernel_rfl) (by kernel_rfl) (Spec.AllStay.at_ ?stay_11) ?start_11 ?ops_11 ?end_11
    case stay_11 =>
      exact ⟨fun _ _ _ _ h => h, fun _ _ _ _ h => h, fun _ _ _ _ h => h, fun _ _ _ _ h => h, fun _ _ _ _ h => h, fun _ _ _ _ h => h, fun _ _ _ _ h => h, fun _ _ _ _ h => h, fun _ _ _ _ h => h, fun _ _ _ _ h => h, fun _ _ _ _ h => h, fun _ _ _ _ h => h, fun _ _ _ _ h => h, fun _ _ _ _ h => h, fun _ _ _ _ h => h, fun _ _ _ _ h => h, fun _ _ _ _ h => h, fun _ _ _ _ h => h, trivial⟩
    case start_11 =>
      exact below_drew (Below.refl _ _)
    case ops_11 =>
      refine ⟨?_, ?_, ?_, ?_, ?_, ?_, ?_, ?_, ?_, ?_, ?_, ?_, ?_, ?_, ?_, ?_, ?_, ?_, trivial⟩
      · -- 0: Op.move (Operand.tmp 8)
        refine Spec.tell rfl fun v w hC hS ρ hρ K hK => ?_
        have r8 : ρ (.tmp 8) = .slice A9 bz.length c9 := (hρ _ (by simp [Op.operands])).trans (by kernel_rfl)
        clear hρ hS
        go_simp
        exact hK _ _ hC (Below.refl _ _) rfl
      · -- 1: Op.call { callee := Callee.builtin Builtin.len, args := #[Operand.tmp 58], argTypes := #[4
        refine Spec.tell rfl fun v w hC hS ρ hρ K hK => ?_
        have s0 : v 0 = .slice A9 bz.length c9 := hS 0 rfl
        have r58 : ρ (.tmp 58) = .slice A9 bz.length c9 := ((hρ _ (by simp [Op.operands, Call.operands])).trans (by kernel_rfl : Spec.look _ _ _ v (.tmp 58) = v 0)).trans s0
        clear hρ hS
        go_simp
        exact hK _ _ hC (Below.refl _ _) rfl
      · -- 2: Op.move (Operand.tmp 1)
        refine Spec.tell rfl fun v w hC hS ρ hρ K hK => ?_
        have r1 : ρ (.tmp 1) = .slice A1 b.length c1 := (hρ _ (by simp [Op.operands])).trans (by kernel_rfl)
        clear hρ hS
        go_simp
        exact hK _ _ hC (Below.refl _ _) rfl
      · -- 3: Op.call { callee := Callee.builtin Builtin.len, args := #[Operand.tmp 60], argTypes := #[4
        refine Spec.tell rfl fun v w hC hS ρ hρ K hK => ?_
        have s2 : v 2 = .slice A1 b.length c1 := hS 2 rfl
        have r60 : ρ (.tmp 60) = .slice A1 b.length c1 := ((hρ _ (by simp [Op.operands, Call.operands])).trans (by kernel_rfl : Spec.look _ _ _ v (.tmp 60) = v 2)).trans s2
        clear hρ hS
        go_simp
        exact hK _ _ hC (Below.refl _ _) rfl
      · -- 4: Op.binOp BinOp.add 3 (Operand.tmp 61) (Operand.const (Value.int IntKind.i64 7)) 3
        refine Spec.tell rfl fun v w hC hS ρ hρ K hK => ?_
        have s3 : v 3 = .int .i64 (b.length : Int) := hS 3 rfl
        have r61 : ρ (.tmp 61) = .int .i64 (b.length : Int) := ((hρ _ (by simp [Op.operands])).trans (by kernel_rfl : Spec.look _ _ _ v (.tmp 61) = v 3)).trans s3
        have c0 : ρ (.const (Value.int IntKind.i64 7)) = (Value.int IntKind.i64 7) := (hρ _ (by simp [Op.operands])).trans (by kernel_rfl)
        clear hρ hS
        have e4 := H4.out
        go_simp
        exact hK _ _ hC (Below.refl _ _) rfl
      · -- 5: Op.binOp BinOp.quo 3 (Operand.tmp 62) (Operand.const (Value.int IntKind.i64 8)) 3
        refine Spec.tell rfl fun v w hC hS ρ hρ K hK => ?_
        have s4 : v 4 = .int .i64 ((b.length : Int) + 7) := hS 4 rfl
        have r62 : ρ (.tmp 62) = .int .i64 ((b.length : Int) + 7) := ((hρ _ (by simp [Op.operands])).trans (by kernel_rfl : Spec.look _ _ _ v (.tmp 62) = v 4)).trans s4
        have c0 : ρ (.const (Value.int IntKind.i64 8)) = (Value.int IntKind.i64 8) := (hρ _ (by simp [Op.operands])).trans (by kernel_rfl)
        clear hρ hS
        have e5 := H5.out
        have e5' := H5'.out
        go_simp
        exact hK _ _ hC (Below.refl _ _) rfl
      · -- 6: Op.binOp BinOp.mul 3 (Operand.tmp 63) (Operand.const (Value.int IntKind.i64 8)) 3
        refine Spec.tell rfl fun v w hC hS ρ hρ K hK => ?_
        have s5 : v 5 = .int .i64 (Q : Int) := hS 5 rfl
        have r63 : ρ (.tmp 63) = .int .i64 (Q : Int) := ((hρ _ (by simp [Op.operands])).trans (by kernel_rfl : Spec.look _ _ _ v (.tmp 63) = v 5)).trans s5
        have c0 : ρ (.const (Value.int IntKind.i64 8)) = (Value.int IntKind.i64 8) := (hρ _ (by simp [Op.operands])).trans (by kernel_rfl)
        clear hρ hS
        have e6 := H6.out
        go_simp
        exact hK _ _ hC (Below.refl _ _) rfl
      · -- 7: Op.binOp BinOp.neq 3 (Operand.tmp 59) (Operand.tmp 64) 3
        refine Spec.tell rfl fun v w hC hS ρ hρ K hK => ?_
        have s1 : v 1 = .int .i64 (bz.length : Int) := hS 1 rfl
        have s6 : v 6 = .int .i64 (bz.length : Int) := hS 6 rfl
        have r59 : ρ (.tmp 59) = .int .i64 (bz.length : Int) := ((hρ _ (by simp [Op.operands])).trans (by kernel_rfl : Spec.look _ _ _ v (.tmp 59) = v 1)).trans s1
        have r64 : ρ (.tmp 64) = .int .i64 (bz.length : Int) := ((hρ _ (by simp [Op.operands])).trans (by kernel_rfl : Spec.look _ _ _ v (.tmp 64) = v 6)).trans s6
        clear hρ hS
        go_simp
        exact hK _ _ hC (Below.refl _ _) rfl
      · -- 8: Op.move (Operand.tmp 65)
        refine Spec.tell rfl fun v w hC hS ρ hρ K hK => ?_
        have s7 : v 7 = .bool false := hS 7 rfl
        have r65 : ρ (.tmp 65) = .bool false := ((hρ _ (by simp [Op.operands])).trans (by kernel_rfl : Spec.look _ _ _ v (.tmp 65) = v 7)).trans s7
        clear hρ hS
        go_simp
        exact hK _ _ hC (Below.refl _ _) rfl
      · -- 9: Op.move (Operand.tmp 8)
        refine Spec.tellG 8 false rfl (fun v w hC hS hG ρ hρ K hK => ?_) (fun v w hC hS hG => ?_)
        · have s8 : v 8 = .bool false := hS 8 rfl
          have r8 : ρ (.tmp 8) = .slice A9 bz.length c9 := (hρ _ (by simp [Op.operands])).trans (by kernel_rfl)
          clear hρ hS
          go_simp
          exact hK _ _ hC (Below.refl _ _) rfl
        · have s8 : v 8 = .bool false := hS 8 rfl
          exact absurd s8 hG
      · -- 10: Op.move (Operand.tmp 1)
        refine Spec.tellG 8 false rfl (fun v w hC hS hG ρ hρ K hK => ?_) (fun v w hC hS hG => ?_)
        · have s8 : v 8 = .bool false := hS 8 rfl
          have r1 : ρ (.tmp 1) = .slice A1 b.length c1 := (hρ _ (by simp [Op.operands])).trans (by kernel_rfl)
          clear hρ hS
          go_simp
          exact hK _ _ hC (Below.refl _ _) rfl
        · have s8 : v 8 = .bool false := hS 8 rfl
          exact absurd s8 hG
      · -- 11: Op.call { callee := Callee.builtin Builtin.len, args := #[Operand.tmp 68], argTypes := #[4
        refine Spec.tellG 8 false rfl (fun v w hC hS hG ρ hρ K hK => ?_) (fun v w hC hS hG => ?_)
        · have s8 : v 8 = .bool false := hS 8 rfl
          have s10 : v 10 = .slice A1 b.length c1 := hS 10 rfl
          have r68 : ρ (.tmp 68) = .slice A1 b.length c1 := ((hρ _ (by simp [Op.operands, Call.operands])).trans (by kernel_rfl : Spec.look _ _ _ v (.tmp 68) = v 10)).trans s10
          clear hρ hS
          go_simp
          exact hK _ _ hC (Below.refl _ _) rfl
        · have s8 : v 8 = .bool false := hS 8 rfl
          have s10 : v 10 = .slice A1 b.length c1 := hS 10 rfl
          exact absurd s8 hG
      · -- 12: Op.slice 41 (Operand.tmp 67) none (some (Operand.tmp 69)) none
        refine Spec.tellG 8 false rfl (fun v w hC hS hG ρ hρ K hK => ?_) (fun v w hC hS hG => ?_)
        · have s8 : v 8 = .bool false := hS 8 rfl
          have s9 : v 9 = .slice A9 bz.length c9 := hS 9 rfl
          have s11 : v 11 = .int .i64 (b.length : Int) := hS 11 rfl
          have r67 : ρ (.tmp 67) = .slice A9 bz.length c9 := ((hρ _ (by simp [Op.operands])).trans (by kernel_rfl : Spec.look _ _ _ v (.tmp 67) = v 9)).trans s9
          have r69 : ρ (.tmp 69) = .int .i64 (b.length : Int) := ((hρ _ (by simp [Op.operands])).trans (by kernel_rfl : Spec.look _ _ _ v (.tmp 69) = v 11)).trans s11
          clear hρ hS
          have hcT := HcT.out
          go_simp
          exact hK _ _ hC (Below.refl _ _) rfl
        · have s8 : v 8 = .bool false := hS 8 rfl
          have s9 : v 9 = .slice A9 bz.length c9 := hS 9 rfl
          have s11 : v 11 = .int .i64 (b.length : Int) := hS 11 rfl
          exact absurd s8 hG
      · -- 13: Op.convert 41 9 (Operand.tmp 70)
        refine Spec.tellG 8 false rfl (fun v w hC hS hG ρ hρ K hK => ?_) (fun v w hC hS hG => ?_)
        · have s8 : v 8 = .bool false := hS 8 rfl
          have s12 : v 12 = .slice A9 b.length c9 := hS 12 rfl
          have r70 : ρ (.tmp 70) = .slice A9 b.length c9 := ((hρ _ (by simp [Op.operands])).trans (by kernel_rfl : Spec.look _ _ _ v (.tmp 70) = v 12)).trans s12
          clear hρ hS
          have hcv := Kd.C_string (P := Try.prog) (A := A9) (c := c9) Try.underlying41 Try.underlying5 Try.underlying9 (Kd.C_below HCT.out hC)
          go_simp
          exact hK _ _ hC (Below.refl _ _) rfl
        · have s8 : v 8 = .bool false := hS 8 rfl
          have s12 : v 12 = .slice A9 b.length c9 := hS 12 rfl
          exact absurd s8 hG
      · -- 14: Op.move (Operand.tmp 1)
        refine Spec.tellG 8 false rfl (fun v w hC hS hG ρ hρ K hK => ?_) (fun v w hC hS hG => ?_)
        · have s8 : v 8 = .bool false := hS 8 rfl
          have r1 : ρ (.tmp 1) = .slice A1 b.length c1 := (hρ _ (by simp [Op.operands])).trans (by kernel_rfl)
          clear hρ hS
          go_simp
          exact hK _ _ hC (Below.refl _ _) rfl
        · have s8 : v 8 = .bool false := hS 8 rfl
          exact absurd s8 hG
      · -- 15: Op.convert 41 9 (Operand.tmp 72)
        refine Spec.tellG 8 false rfl (fun v w hC hS hG ρ hρ K hK => ?_) (fun v w hC hS hG => ?_)
        · have s8 : v 8 = .bool false := hS 8 rfl
          have s14 : v 14 = .slice A1 b.length c1 := hS 14 rfl
          have r72 : ρ (.tmp 72) = .slice A1 b.length c1 := ((hρ _ (by simp [Op.operands])).trans (by kernel_rfl : Spec.look _ _ _ v (.tmp 72) = v 14)).trans s14
          clear hρ hS
          have hcv := Kd.C_string (P := Try.prog) (A := A1) (c := c1) Try.underlying41 Try.underlying5 Try.underlying9 (Kd.C_below HR11.out (below_then HB10.out HB10.out.size hC))
          go_simp
          exact hK _ _ hC (Below.refl _ _) rfl
        · have s8 : v 8 = .bool false := hS 8 rfl
          have s14 : v 14 = .slice A1 b.length c1 := hS 14 rfl
          exact absurd s8 hG
      · -- 16: Op.binOp BinOp.neq 9 (Operand.tmp 71) (Operand.tmp 73) 9
        refine Spec.tellG 8 false rfl (fun v w hC hS hG ρ hρ K hK => ?_) (fun v w hC hS hG => ?_)
        · have s8 : v 8 = .bool false := hS 8 rfl
          have s13 : v 13 = .string (strOfNums b) := hS 13 rfl
          have s15 : v 15 = .string (strOfNums b) := hS 15 rfl
          have r71 : ρ (.tmp 71) = .string (strOfNums b) := ((hρ _ (by simp [Op.operands])).trans (by kernel_rfl : Spec.look _ _ _ v (.tmp 71) = v 13)).trans s13
          have r73 : ρ (.tmp 73) = .string (strOfNums b) := ((hρ _ (by simp [Op.operands])).trans (by kernel_rfl : Spec.look _ _ _ v (.tmp 73) = v 15)).trans s15
          clear hρ hS
          go_simp
          exact hK _ _ hC (Below.refl _ _) rfl
        · have s8 : v 8 = .bool false := hS 8 rfl
          have s13 : v 13 = .string (strOfNums b) := hS 13 rfl
          have s15 : v 15 = .string (strOfNums b) := hS 15 rfl
          exact absurd s8 hG
      · -- 17: Op.pick (Operand.tmp 66) (Operand.const (Value.bool true)) (Operand.tmp 74)
        refine Spec.tell rfl fun v w hC hS ρ hρ K hK => ?_
        have s8 : v 8 = .bool false := hS 8 rfl
        have s16 : v 16 = .bool false := hS 16 rfl
        have r66 : ρ (.tmp 66) = .bool false := ((hρ _ (by simp [Op.operands])).trans (by kernel_rfl : Spec.look _ _ _ v (.tmp 66) = v 8)).trans s8
        have r74 : ρ (.tmp 74) = .bool false := ((hρ _ (by simp [Op.operands])).trans (by kernel_rfl : Spec.look _ _ _ v (.tmp 74) = v 16)).trans s16
        have c0 : ρ (.const (Value.bool true)) = (Value.bool true) := (hρ _ (by simp [Op.operands])).trans (by kernel_rfl)
        clear hρ hS
        go_simp
        exact hK _ _ hC (Below.refl _ _) rfl
    case end_11 =>
      intro v w' hC hS
      have s17 : v 17 = .bool false := hS 17 (by decide)
      clear hS
      simp only [Spec.putAll, Act.put, List.setIfInBounds_toArray, List.set_cons_zero, List.set_cons_succ]
      generalize v 0 = x0
      generalize v 1 = x1
      generalize v 2 = x2
      generalize v 3 = x3
      generalize v 4 = x4
      generalize v 5 = x5
      generalize v 6 = x6
      generalize v 7 = x7
      generalize v 8 = x8
      generalize v 9 = x9
      generalize v 10 = x10
      generalize v 11 = x11
      generalize v 12 = x12
      generalize v 13 = x13
      generalize v 14 = x14
      generalize v 15 = x15
      generalize v 16 = x16
      rw [s17]; clear s17
      have hcF := HcF.out
      go_wp2_with fail
      clear hcF
      go_loopw [81] (fun v81 wr => ∃ i : Nat, i ≤ z.length ∧ v81 = .int .i64 i ∧ Aside0 (Below w10.heap.size w10 wr)) (fun v81 _ => z.length - (intOf v81).toNat)
      case atStart => exact ⟨0, Nat.zero_le _, rfl, ⟨hC⟩⟩
      case round =>
        obtain ⟨i, hi, rfl, HBi⟩ := hrel
        by_cases hlt : i < z.length
        · obtain ⟨ad, eA, hcx⟩ := C_at (Kd.C_below HCF.out HBi.out) i hlt
          subst eA
          rw [show rd z (i : Int) = 0 from by
            have := HZ.out.1 z[i] (List.getElem_mem _)
            unfold rd; simp [List.getD_eq_getElem?_getD, hlt, this]] at hcx
          have hz7 := HZ.out.2
          go_wp2_with fail
          go_roundw
          case rel => exact ⟨i + 1, by omega, by go_num, HBi⟩
          case measure => simp [intOf]; omega
        · obtain rfl : i = z.length := by omega
          go_wp2_with fail
          go_ret
          exact ⟨rfl, below_then HB.out HB.out.size (below_then HB10.out HB10.out.size HBi.out)⟩
open Go.Proofs.Ytdcljkdbdjbjiaa.Math in
theorem bytes_all (w0 : World) (A0 : Option Addr) (c0 : Nat) (l : List Int) (A1 : Option Addr) (c1 : Nat) (b : List Int)
    (hr0 : Kd.C (Kd.int .u64) w0 A0 l.length l) (hc0 : l.length ≤ c0) (hw0 : ∀ x ∈ l, 0 ≤ x ∧ x < 18446744073709551616) (hr1 : Kd.C (Kd.int .u8) w0 A1 b.length b) (hc1 : b.length ≤ c1) (hw1 : ∀ x ∈ b, 0 ≤ x ∧ x < 256) :
    Calls Try.prog 9 #[.slice A0 l.length c0, .slice A1 b.length c1] w0 fun e w' => e = .returned (.bool true) ∧ Below w0.heap.size w0 w' := by
  by_cases hl : l.length ≤ 60
  · by_cases hb : b.length ≤ 400
    · have g1 := pack_Bytes_f l (fun w h => (hw0 w h).1) (by omega)
      have g2 := rbytes_f l hw0 (by omega)
      have g3 := pw_f (octs l) (octs_oct l) (by rw [octs_length]; omega)
      rw [wds_octs l hw0] at g3
      have g4 := same_f l l (by omega)
      have g5 := pw_f b hw1 (by omega)
      have g6 := rw_f b hw1 (by omega)
      have g7 := same_f (wds b) (wds b) (by rw [wds_length]; omega)
      have g8 := pack_Bytes_f (wds b) (fun w h => (wds_range b hw1 w h).1) (by rw [wds_length]; omega)
      rw [decide_eq_true rfl] at g4 g7
      rw [octs_wds b hw1] at g8
      obtain ⟨k1, q1⟩ := g1
      obtain ⟨k2, q2⟩ := g2
      obtain ⟨k3, q3⟩ := g3
      obtain ⟨k4, q4⟩ := g4
      obtain ⟨k5, q5⟩ := g5
      obtain ⟨k6, q6⟩ := g6
      obtain ⟨k7, q7⟩ := g7
      obtain ⟨k8, q8⟩ := g8
      have hk : ∀ j ∈ [k1, k2, k3, k4, k5, k6, k7, k8], j ≤ k1 + k2 + k3 + k4 + k5 + k6 + k7 + k8 := by
        intro j hj
        simp only [List.mem_cons, List.not_mem_nil, or_false] at hj
        omega
      exact bytes_short (k1 + k2 + k3 + k4 + k5 + k6 + k7 + k8) w0 A0 c0 l A1 c1 b hl hb hr0 hc0 hr1 hc1 (octs l) (wds b) _ ((b.length + 7) / 8) (octs_length l) (by rw [octs_length]; omega)
        (q1 _ (hk _ (by simp))) (q2 _ (hk _ (by simp))) (q3 _ (hk _ (by simp))) (q4 _ (hk _ (by simp))) (q5 _ (hk _ (by simp))) (q6 _ (hk _ (by simp))) (q7 _ (hk _ (by simp))) (q8 _ (hk _ (by simp))) rfl
        (by simp; omega) (by rw [List.take_left' rfl]) (by
          intro x hx
          rw [List.drop_left' rfl, List.mem_replicate] at hx
          exact hx.2)
    · exact bytes_long2 w0 A0 c0 l A1 c1 b hl (by omega)
  · exact bytes_long w0 A0 c0 l A1 c1 b (by omega)
end Go.Proofs.Ytdcljkdbdjbjiaa.Pk
