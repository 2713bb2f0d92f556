/- CrcParts: the walk through the law function, by hand. -/
import Derived.Test.YtdcljkdbdjbjiaaPCrcSumsx
import Derived.Test.YtdcljkdbdjbjiaaMath
import Derived.Test.YtdcljkdbdjbjiaaSpec
namespace Go.Proofs.Ytdcljkdbdjbjiaa.PCrcSums
open Go.RowKit Go.Proofs.YtdcljkdbdjbjiaaW.PrintWords Go.Proofs.YtdcljkdbdjbjiaaW.PrintLast Go.Proofs.YtdcljkdbdjbjiaaW.PrintMore
set_option linter.unusedVariables false
theorem parts_long (k : Nat) (a1 : Int) (l : List Int) (w : World) (A0 : Option Addr) (c0 : Nat) (hr0 : Kd.C (Kd.int .u8) w A0 l.length l) (hc0 : l.length ≤ c0) (hlen : 200 < l.length) :
    Calls Try.prog 8 #[.slice A0 l.length c0, .int .u16 a1] w fun e w' => e = .returned (.bool true) ∧ Below w.heap.size w w' := by
  have hd : decide ((l.length : Int) > 200) = true := decide_eq_true (by omega)
  have hd2 : decide (200 < (l.length : Int)) = true := decide_eq_true (by omega)
  clear hlen hc0 hr0
  go_enter Try.func8, Try.ntmps8
  go_wp2_with fail
  refine (cantlelaw02_Lives.calls true _ rfl).mono ?_
  rintro e w1 ⟨rfl, hb⟩
  have hb1 := Aside0.mk hb
  clear hb
  go_wp2_with fail
  refine (cantlelaw02_Lives.calls true _ rfl).mono ?_
  rintro e w2 ⟨rfl, hb⟩
  have hb2 := Aside0.mk hb
  clear hb
  go_wp2_with fail
  go_ret
  exact ⟨rfl, below_step hb1.out hb2.out⟩
theorem infos5 : (Try.prog.info? 5).map (fun i => (i.zero, i.size, i.bytes)) = some (some (.int .u8 0), 1, 1) := by kernel_rfl
theorem sz_alloc (W : World) (o : Obj) (n : Nat) (h : n = W.heap.size) : n + 1 = (W.alloc o).heap.size := by subst h; simp [World.alloc, -World.alloc_eq]
theorem sz_drewN (W : World) (m n : Nat) (h : n = W.heap.size) : n = (W.drewN m).heap.size := h
theorem sz_drew (W : World) (n : Nat) (h : n = W.heap.size) : n = W.drew.heap.size := h

theorem row1 {w1 W : World} {ad : Addr} {A : Option Addr} {c : Nat} (xs : List Int) (hB : Below w1.heap.size w1 W) (h0 : W.cell? ad = some (.slice A xs.length c)) (hx : xs.length ≤ c) (C0 : (Kd.int .u8).C w1 A xs.length xs) :
    (Kd.slice 5 (Kd.int .u8)).C W (some ad) 1 [xs] := Mem.C_row1 h0 hx (Kd.C_below C0 hB)
theorem row2 {w1 W : World} {g : Nat} {A B : Option Addr} {c d : Nat} (xs ys : List Int) (hB : Below w1.heap.size w1 W) (h0 : W.cell? ⟨g, 0, none⟩ = some (.slice A xs.length c)) (h1 : W.cell? ⟨g, 1, none⟩ = some (.slice B ys.length d))
    (hx : xs.length ≤ c) (hy : ys.length ≤ d) (C0 : (Kd.int .u8).C w1 A xs.length xs) (C1 : (Kd.int .u8).C w1 B ys.length ys) :
    (Kd.slice 5 (Kd.int .u8)).C W (some ⟨g, 0, none⟩) 2 [xs, ys] :=
  Mem.C_cells_rows (ls := [xs, ys]) (by simp) (fun j p hp => by
    rw [add_plain]
    rcases j with _ | _ | j
    · simp at hp; subst hp; exact ⟨A, c, h0, hx, Kd.C_below C0 hB⟩
    · simp at hp; subst hp; exact ⟨B, d, h1, hy, Kd.C_below C1 hB⟩
    · simp at hp)
theorem row3 {w1 W : World} {g : Nat} {A B : Option Addr} {c d : Nat} (xs ys : List Int) (hB : Below w1.heap.size w1 W) (h0 : W.cell? ⟨g, 0, none⟩ = some (.slice A xs.length c)) (h1 : W.cell? ⟨g, 1, none⟩ = some (.slice none 0 0)) (h2 : W.cell? ⟨g, 2, none⟩ = some (.slice B ys.length d))
    (hx : xs.length ≤ c) (hy : ys.length ≤ d) (C0 : (Kd.int .u8).C w1 A xs.length xs) (C1 : (Kd.int .u8).C w1 B ys.length ys) :
    (Kd.slice 5 (Kd.int .u8)).C W (some ⟨g, 0, none⟩) 3 [xs, [], ys] :=
  Mem.C_cells_rows (ls := [xs, [], ys]) (by simp) (fun j p hp => by
    rw [add_plain]
    rcases j with _ | _ | _ | j
    · simp at hp; subst hp; exact ⟨A, c, h0, hx, Kd.C_below C0 hB⟩
    · simp at hp; subst hp; exact ⟨none, 0, h1, Nat.le_refl _, rfl, by simp, fun h => absurd h (by simp)⟩
    · simp at hp; subst hp; exact ⟨B, d, h2, hy, Kd.C_below C1 hB⟩
    · simp at hp)
theorem row0 (W : World) : (Kd.slice 5 (Kd.int .u8)).C W none 0 [] := ⟨rfl, by omega, fun h => absurd h (by omega)⟩
abbrev Told32 (W : World) (v : Value) (r : Int) : Prop := Calls Try.prog 19 #[v] W fun e w' => e = .returned (.int .u32 r) ∧ Drawn0 W w'
abbrev Told16 (W : World) (v : Value) (r : Int) : Prop := Calls Try.prog 21 #[v] W fun e w' => e = .returned (.int .u16 r) ∧ Drawn0 W w'
set_option maxHeartbeats 4000000 in
theorem parts_short (K k : Nat) (r s a1 : Int) (l : List Int) (w : World) (A0 : Option Addr) (c0 : Nat) (hr0 : Kd.C (Kd.int .u8) w A0 l.length l) (hc0 : l.length ≤ c0) (hlen : l.length ≤ 200) (hk : k ≤ l.length)
    (ha : 0 ≤ a1 ∧ a1 < 65536) (hke : a1 % ((l.length : Int) + 1) = (k : Int))
    (f1 : crc_Sum32.f K [l.take k, l.drop k] = some r) (f2 : crc_Sum32.f K [l] = some r) (f3 : crc_Sum16.f K [l.take k, [], l.drop k] = some s) (f4 : crc_Sum16.f K [l] = some s) (f5 : crc_Sum32.f K [] = some 0) (f6 : crc_Sum16.f K [] = some 65535) :
    Calls Try.prog 8 #[.slice A0 l.length c0, .int .u16 a1] w fun e w' => e = .returned (.bool true) ∧ Below w.heap.size w w' := by
  have hd : decide ((l.length : Int) > 200) = false := decide_eq_false (by omega)
  have hd2 : decide (200 < (l.length : Int)) = false := decide_eq_false (by omega)
  have HR := Aside0.mk hr0
  have HC := Aside0.mk hc0
  have HL := Aside0.mk hlen
  have X := Aside0.mk (And.intro f1 (And.intro f2 (And.intro f3 (And.intro f4 (And.intro f5 f6)))))
  clear f1 f2 f3 f4 f5 f6 hr0 hc0
  have e1 : wrap64 a1 = a1 := Math.w64 (by omega) (by omega)
  have e2 : wrap64 ((l.length : Int) + 1) = (l.length : Int) + 1 := Math.w64 (by omega) (by omega)
  have e3 : Int.tmod a1 ((l.length : Int) + 1) = (k : Int) := by rw [Int.tmod_eq_emod_of_nonneg ha.1, hke]
  have e4 : wrap64 (k : Int) = (k : Int) := Math.w64 (by omega) (by omega)
  have KA := Aside0.mk ha
  have KK := Aside0.mk hk
  clear ha hk hke hlen
  go_enter Try.func8, Try.ntmps8
  go_wp2_with fail
  refine (cantlelaw02_Lives.calls true _ rfl).mono ?_
  rintro e w1 ⟨rfl, hb⟩
  have hb1 := Aside0.mk hb
  have HR1 := Aside0.mk (Kd.C_below HR.out hb)
  clear hb
  go_wp2_with fail
  obtain ⟨i0, hi0, _, hsz0⟩ := info_parts infos5
  have hcT := cut_to (P := Try.prog) 41 5 .i64 Try.underlying41 hi0 A0 l.length c0 (k : Int) (by omega) (by have := KK.out; omega) HC.out
  have hcF := cut_from (P := Try.prog) 41 5 .i64 Try.underlying41 hi0 1 hsz0.1 A0 l.length c0 (k : Int) (by omega) (by have := KK.out; omega)
  rw [Int.toNat_natCast] at hcT hcF
  have lT : (l.take k).length = k := by rw [List.length_take]; have := KK.out; omega
  have lF : (l.drop k).length = l.length - k := List.length_drop
  have CT := Kd.C_take (m := k) HR1.out KK.out
  have CF := Kd.C_drop (m := k) (c := c0) HR1.out KK.out HC.out
  have hcf : (if c0 = k then A0 else A0.map (·.add (k * (Kd.int .u8).sz))) = (if c0 = k then A0 else A0.map (·.add (k * 1))) := rfl
  rw [hcf] at CF
  clear hcf
  generalize (if c0 = k then A0 else A0.map (·.add (k * 1))) = A1 at hcF CF
  have HCT := Aside0.mk CT
  have HCF := Aside0.mk CF
  have HLT := Aside0.mk lT
  have HLF := Aside0.mk lF
  have bT := Aside0.mk (show (l.take k).length ≤ c0 from by have := HC.out; have := KK.out; omega)
  have bF := Aside0.mk (show (l.drop k).length ≤ c0 - k from by have := HC.out; have := KK.out; omega)
  replace hcT : ∀ W : World, (Instr.slice 41 (.slice A0 l.length c0) none (some (.int .i64 (k : Int))) none).run Try.prog W = .ok (.slice A0 (l.take k).length c0) W := fun W => by rw [hcT W, lT]
  replace hcF : ∀ W : World, (Instr.slice 41 (.slice A0 l.length c0) (some (.int .i64 (k : Int))) none none).run Try.prog W = .ok (.slice A1 (l.drop k).length (c0 - k)) W := fun W => by rw [hcF W, lF]
  clear CT CF lT lF hi0 hsz0 HLT HLF
  generalize l.take k = T at hcT X HCT bT
  generalize l.drop k = F at hcF X HCF bF
  have T2 : ∀ (W : World) (g : Nat), Below w1.heap.size w1 W → W.heap[g]? = some (.cells #[.slice A0 T.length c0, .slice A1 F.length (c0 - k)] 41) →
      Calls Try.prog 19 #[.slice (some ⟨g, 0, none⟩) 2 2] W fun e w' => e = .returned (.int .u32 r) ∧ Drawn0 W w' :=
    fun W g hB hb => crc_Sum32.calls K (some ⟨g, 0, none⟩) 2 [T, F] r W (row2 (w1 := w1) T F hB ((blk_cell hb 0).trans rfl) ((blk_cell hb 1).trans rfl) bT.out bF.out HCT.out HCF.out) (Nat.le_refl _) X.out.1
  have T1 : ∀ (W : World) (g : Nat), Below w1.heap.size w1 W → W.heap[g]? = some (.cells #[.slice A0 l.length c0] 41) →
      Calls Try.prog 19 #[.slice (some ⟨g, 0, none⟩) 1 1] W fun e w' => e = .returned (.int .u32 r) ∧ Drawn0 W w' :=
    fun W g hB hb => crc_Sum32.calls K (some ⟨g, 0, none⟩) 1 [l] r W (row1 (w1 := w1) l hB ((blk_cell hb 0).trans rfl) HC.out HR1.out) (Nat.le_refl _) X.out.2.1
  have T0 : ∀ (W : World), Calls Try.prog 19 #[.slice none 0 0] W fun e w' => e = .returned (.int .u32 0) ∧ Drawn0 W w' :=
    fun W => crc_Sum32.calls K none 0 [] 0 W (row0 _) (Nat.le_refl _) X.out.2.2.2.2.1
  have S3 : ∀ (W : World) (g : Nat), Below w1.heap.size w1 W → W.heap[g]? = some (.cells #[.slice A0 T.length c0, .slice none 0 0, .slice A1 F.length (c0 - k)] 41) →
      Calls Try.prog 21 #[.slice (some ⟨g, 0, none⟩) 3 3] W fun e w' => e = .returned (.int .u16 s) ∧ Drawn0 W w' :=
    fun W g hB hb => crc_Sum16.calls K (some ⟨g, 0, none⟩) 3 [T, [], F] s W (row3 (w1 := w1) T F hB ((blk_cell hb 0).trans rfl) ((blk_cell hb 1).trans rfl) ((blk_cell hb 2).trans rfl) bT.out bF.out HCT.out HCF.out) (Nat.le_refl _) X.out.2.2.1
  have S1 : ∀ (W : World) (g : Nat), Below w1.heap.size w1 W → W.heap[g]? = some (.cells #[.slice A0 l.length c0] 41) →
      Calls Try.prog 21 #[.slice (some ⟨g, 0, none⟩) 1 1] W fun e w' => e = .returned (.int .u16 s) ∧ Drawn0 W w' :=
    fun W g hB hb => crc_Sum16.calls K (some ⟨g, 0, none⟩) 1 [l] s W (row1 (w1 := w1) l hB ((blk_cell hb 0).trans rfl) HC.out HR1.out) (Nat.le_refl _) X.out.2.2.2.1
  have S0 : ∀ (W : World), Calls Try.prog 21 #[.slice none 0 0] W fun e w' => e = .returned (.int .u16 65535) ∧ Drawn0 W w' :=
    fun W => crc_Sum16.calls K none 0 [] 65535 W (row0 _) (Nat.le_refl _) X.out.2.2.2.2.2
  have T2' := Aside0.mk T2
  have T1' := Aside0.mk T1
  have T0' := Aside0.mk T0
  have S3' := Aside0.mk S3
  have S1' := Aside0.mk S1
  have S0' := Aside0.mk S0
  clear T2 T1 T0 S3 S1 S0 HR1 HCT HCF bT bF X HR HL KA KK HC
  refine Spec.wp_told (F := fun j => [0, 0, 3, 0, 0, 24, 63, 127, 0, 256, 1023, 2047, 4095, 8191, 8191, 32767, 8191, 8191, 204799, 524287, 1048575, 8191, 2105343, 8388607, 16777215, 33554431, 67108863, 134217727, 268435455, 536870911, 1073741823, 2147483647, 4294967295, 8589934591, 17179869183].getD j 0) (C := fun W => Below w1.heap.size w1 W) (S := Spec.at_ [fun u W => u = .slice A0 l.length c0, fun u W => u = .int .i64 (k : Int), fun u W => u = .slice A0 T.length c0, fun u W => u = .slice A0 l.length c0, fun u W => u = .int .i64 (k : Int), fun u W => u = .slice A1 F.length (c0 - k), fun u W => ∃ g, u = .slice (some ⟨g, 0, none⟩) 2 2 ∧ W.heap[g]? = some (.cells #[.slice A0 T.length c0, .slice A1 F.length (c0 - k)] 41), fun u W => u = .int .u32 r, fun u W => u = .slice A0 l.length c0, fun u W => ∃ g, u = .slice (some ⟨g, 0, none⟩) 1 1 ∧ W.heap[g]? = some (.cells #[.slice A0 l.length c0] 41), fun u W => u = .int .u32 r, fun u W => u = .bool true, fun u W => u = .bool true, fun u W => u = .slice A0 l.length c0, fun u W => u = .int .i64 (k : Int), fun u W => u = .slice A0 T.length c0, fun u W => u = .slice A0 l.length c0, fun u W => u = .int .i64 (k : Int), fun u W => u = .slice A1 F.length (c0 - k), fun u W => ∃ g, u = .slice (some ⟨g, 0, none⟩) 3 3 ∧ W.heap[g]? = some (.cells #[.slice A0 T.length c0, .slice none 0 0, .slice A1 F.length (c0 - k)] 41), fun u W => u = .int .u16 s, fun u W => u = .slice A0 l.length c0, fun u W => ∃ g, u = .slice (some ⟨g, 0, none⟩) 1 1 ∧ W.heap[g]? = some (.cells #[.slice A0 l.length c0] 41), fun u W => u = .int .u16 s, fun u W => u = .bool true, fun u W => u = .bool true, fun u W => u = .bool true, fun u W => u = .int .u32 0, fun u W => u = .bool true, fun u W => u = .bool true, fun u W => u = .bool true, fun u W => u = .int .u16 65535, fun u W => u = .bool true, fun u W => u = .bool true, fun u W => u = .bool true]) (Kp := fun W W' => Below W.heap.size W W') (by kernel_rfl) (by kernel_rfl) (Spec.AllStay.at_ ?stay_4) ?start_4 ?ops_4 ?end_4
  case stay_4 =>
    exact ⟨fun _ _ _ _ h => h, fun _ _ _ _ h => h, fun _ _ _ _ h => h, fun _ _ _ _ h => h, fun _ _ _ _ h => h, fun _ _ _ _ h => h, fun _ _ _ hk ⟨g, e, h⟩ => ⟨g, e, blk_below h hk⟩, fun _ _ _ _ h => h, fun _ _ _ _ h => h, fun _ _ _ hk ⟨g, e, h⟩ => ⟨g, e, blk_below h hk⟩, fun _ _ _ _ h => h, fun _ _ _ _ h => h, fun _ _ _ _ h => h, fun _ _ _ _ h => h, fun _ _ _ _ h => h, fun _ _ _ _ h => h, fun _ _ _ _ h => h, fun _ _ _ _ h => h, fun _ _ _ _ h => h, fun _ _ _ hk ⟨g, e, h⟩ => ⟨g, e, blk_below h hk⟩, fun _ _ _ _ h => h, fun _ _ _ _ h => h, fun _ _ _ hk ⟨g, e, h⟩ => ⟨g, e, blk_below h hk⟩, fun _ _ _ _ h => h, fun _ _ _ _ h => h, fun _ _ _ _ h => h, fun _ _ _ _ h => h, fun _ _ _ _ h => h, fun _ _ _ _ h => h, fun _ _ _ _ h => h, fun _ _ _ _ h => h, fun _ _ _ _ h => h, fun _ _ _ _ h => h, fun _ _ _ _ h => h, fun _ _ _ _ h => h, trivial⟩
  case start_4 =>
    exact below_drew (Below.refl _ _)
  case ops_4 =>
    refine ⟨?_, ?_, ?_, ?_, ?_, ?_, ?_, ?_, ?_, ?_, ?_, ?_, ?_, ?_, ?_, ?_, ?_, ?_, ?_, ?_, ?_, ?_, ?_, ?_, ?_, ?_, ?_, ?_, ?_, ?_, ?_, ?_, ?_, ?_, ?_, trivial⟩
    · -- 0: Op.move (Operand.tmp 0)
      refine Spec.tell rfl fun v w hC hS ρ hρ K hK => ?_
      have r0 : ρ (.tmp 0) = .slice A0 l.length c0 := (hρ _ (by simp [Op.operands])).trans (by kernel_rfl)
      clear hρ hS
      go_simp
      exact hK _ _ hC (Below.refl _ _) rfl
    · -- 1: Op.move (Operand.tmp 5)
      refine Spec.tell rfl fun v w hC hS ρ hρ K hK => ?_
      have r5 : ρ (.tmp 5) = .int .i64 (k : Int) := (hρ _ (by simp [Op.operands])).trans (by kernel_rfl)
      clear hρ hS
      go_simp
      exact hK _ _ hC (Below.refl _ _) rfl
    · -- 2: Op.slice 41 (Operand.tmp 20) none (some (Operand.tmp 21)) none
      refine Spec.tell rfl fun v w hC hS ρ hρ K hK => ?_
      have s0 : v 0 = .slice A0 l.length c0 := hS 0 rfl
      have s1 : v 1 = .int .i64 (k : Int) := hS 1 rfl
      have r20 : ρ (.tmp 20) = .slice A0 l.length c0 := ((hρ _ (by simp [Op.operands])).trans (by kernel_rfl : Spec.look _ _ _ v (.tmp 20) = v 0)).trans s0
      have r21 : ρ (.tmp 21) = .int .i64 (k : Int) := ((hρ _ (by simp [Op.operands])).trans (by kernel_rfl : Spec.look _ _ _ v (.tmp 21) = v 1)).trans s1
      clear hρ hS
      go_simp
      exact hK _ _ hC (Below.refl _ _) rfl
    · -- 3: Op.move (Operand.tmp 0)
      refine Spec.tell rfl fun v w hC hS ρ hρ K hK => ?_
      have r0 : ρ (.tmp 0) = .slice A0 l.length c0 := (hρ _ (by simp [Op.operands])).trans (by kernel_rfl)
      clear hρ hS
      go_simp
      exact hK _ _ hC (Below.refl _ _) rfl
    · -- 4: Op.move (Operand.tmp 5)
      refine Spec.tell rfl fun v w hC hS ρ hρ K hK => ?_
      have r5 : ρ (.tmp 5) = .int .i64 (k : Int) := (hρ _ (by simp [Op.operands])).trans (by kernel_rfl)
      clear hρ hS
      go_simp
      exact hK _ _ hC (Below.refl _ _) rfl
    · -- 5: Op.slice 41 (Operand.tmp 23) (some (Operand.tmp 24)) none none
      refine Spec.tell rfl fun v w hC hS ρ hρ K hK => ?_
      have s3 : v 3 = .slice A0 l.length c0 := hS 3 rfl
      have s4 : v 4 = .int .i64 (k : Int) := hS 4 rfl
      have r23 : ρ (.tmp 23) = .slice A0 l.length c0 := ((hρ _ (by simp [Op.operands])).trans (by kernel_rfl : Spec.look _ _ _ v (.tmp 23) = v 3)).trans s3
      have r24 : ρ (.tmp 24) = .int .i64 (k : Int) := ((hρ _ (by simp [Op.operands])).trans (by kernel_rfl : Spec.look _ _ _ v (.tmp 24) = v 4)).trans s4
      clear hρ hS
      go_simp
      exact hK _ _ hC (Below.refl _ _) rfl
    · -- 6: Op.buildSlice 39 2 #[(0, Operand.tmp 22), (1, Operand.tmp 25)]
      refine Spec.tell rfl fun v w hC hS ρ hρ K hK => ?_
      have s2 : v 2 = .slice A0 T.length c0 := hS 2 rfl
      have s5 : v 5 = .slice A1 F.length (c0 - k) := hS 5 rfl
      have r22 : ρ (.tmp 22) = .slice A0 T.length c0 := ((hρ _ (by simp [Op.operands])).trans (by kernel_rfl : Spec.look _ _ _ v (.tmp 22) = v 2)).trans s2
      have r25 : ρ (.tmp 25) = .slice A1 F.length (c0 - k) := ((hρ _ (by simp [Op.operands])).trans (by kernel_rfl : Spec.look _ _ _ v (.tmp 25) = v 5)).trans s5
      clear hρ hS
      go_simp
      exact hK _ _ (below_alloc hC _) (below_alloc (Below.refl _ _) _) ⟨_, rfl, heap_alloc_new _ _⟩
    · -- 7: Op.call { callee := Callee.value (Operand.func 19), args := #[Operand.tmp 26], argTypes :=
      refine Spec.tell rfl fun v w hC hS ρ hρ K hK => ?_
      have s6 : ∃ g, v 6 = .slice (some ⟨g, 0, none⟩) 2 2 ∧ w.heap[g]? = some (.cells #[.slice A0 T.length c0, .slice A1 F.length (c0 - k)] 41) := hS 6 rfl
      obtain ⟨g6, e6, b6⟩ := s6
      have r26 := ((hρ (.tmp 26) (by simp [Op.operands, Call.operands])).trans (by kernel_rfl : Spec.look _ _ _ v (.tmp 26) = v 6)).trans e6
      have f19 : ρ (.func 19) = .func (.func 19) #[] #[] := (hρ _ (by simp [Op.operands, Call.operands])).trans (by kernel_rfl)
      clear hρ hS
      go_simp
      exact (T2'.out _ _ hC b6).mono fun e w' ⟨h1, h2⟩ => ⟨_, h1, hK _ _ (below_then hC hC.size h2.below) h2.below rfl⟩
    · -- 8: Op.move (Operand.tmp 0)
      refine Spec.tell rfl fun v w hC hS ρ hρ K hK => ?_
      have r0 : ρ (.tmp 0) = .slice A0 l.length c0 := (hρ _ (by simp [Op.operands])).trans (by kernel_rfl)
      clear hρ hS
      go_simp
      exact hK _ _ hC (Below.refl _ _) rfl
    · -- 9: Op.buildSlice 39 1 #[(0, Operand.tmp 28)]
      refine Spec.tell rfl fun v w hC hS ρ hρ K hK => ?_
      have s8 : v 8 = .slice A0 l.length c0 := hS 8 rfl
      have r28 : ρ (.tmp 28) = .slice A0 l.length c0 := ((hρ _ (by simp [Op.operands])).trans (by kernel_rfl : Spec.look _ _ _ v (.tmp 28) = v 8)).trans s8
      clear hρ hS
      go_simp
      exact hK _ _ (below_alloc hC _) (below_alloc (Below.refl _ _) _) ⟨_, rfl, heap_alloc_new _ _⟩
    · -- 10: Op.call { callee := Callee.value (Operand.func 19), args := #[Operand.tmp 29], argTypes :=
      refine Spec.tell rfl fun v w hC hS ρ hρ K hK => ?_
      have s9 : ∃ g, v 9 = .slice (some ⟨g, 0, none⟩) 1 1 ∧ w.heap[g]? = some (.cells #[.slice A0 l.length c0] 41) := hS 9 rfl
      obtain ⟨g9, e9, b9⟩ := s9
      have r29 := ((hρ (.tmp 29) (by simp [Op.operands, Call.operands])).trans (by kernel_rfl : Spec.look _ _ _ v (.tmp 29) = v 9)).trans e9
      have f19 : ρ (.func 19) = .func (.func 19) #[] #[] := (hρ _ (by simp [Op.operands, Call.operands])).trans (by kernel_rfl)
      clear hρ hS
      go_simp
      exact (T1'.out _ _ hC b9).mono fun e w' ⟨h1, h2⟩ => ⟨_, h1, hK _ _ (below_then hC hC.size h2.below) h2.below rfl⟩
    · -- 11: Op.binOp BinOp.eql 42 (Operand.tmp 27) (Operand.tmp 30) 42
      refine Spec.tell rfl fun v w hC hS ρ hρ K hK => ?_
      have s7 : v 7 = .int .u32 r := hS 7 rfl
      have s10 : v 10 = .int .u32 r := hS 10 rfl
      have r27 : ρ (.tmp 27) = .int .u32 r := ((hρ _ (by simp [Op.operands])).trans (by kernel_rfl : Spec.look _ _ _ v (.tmp 27) = v 7)).trans s7
      have r30 : ρ (.tmp 30) = .int .u32 r := ((hρ _ (by simp [Op.operands])).trans (by kernel_rfl : Spec.look _ _ _ v (.tmp 30) = v 10)).trans s10
      clear hρ hS
      go_simp
      exact hK _ _ hC (Below.refl _ _) rfl
    · -- 12: Op.move (Operand.tmp 31)
      refine Spec.tell rfl fun v w hC hS ρ hρ K hK => ?_
      have s11 : v 11 = .bool true := hS 11 rfl
      have r31 : ρ (.tmp 31) = .bool true := ((hρ _ (by simp [Op.operands])).trans (by kernel_rfl : Spec.look _ _ _ v (.tmp 31) = v 11)).trans s11
      clear hρ hS
      go_simp
      exact hK _ _ hC (Below.refl _ _) rfl
    · -- 13: Op.move (Operand.tmp 0)
      refine Spec.tellG 12 true rfl (fun v w hC hS hG ρ hρ K hK => ?_) (fun v w hC hS hG => ?_)
      · have s12 : v 12 = .bool true := hS 12 rfl
        have r0 : ρ (.tmp 0) = .slice A0 l.length c0 := (hρ _ (by simp [Op.operands])).trans (by kernel_rfl)
        clear hρ hS
        go_simp
        exact hK _ _ hC (Below.refl _ _) rfl
      · have s12 : v 12 = .bool true := hS 12 rfl
        exact absurd s12 hG
    · -- 14: Op.move (Operand.tmp 5)
      refine Spec.tellG 12 true rfl (fun v w hC hS hG ρ hρ K hK => ?_) (fun v w hC hS hG => ?_)
      · have s12 : v 12 = .bool true := hS 12 rfl
        have r5 : ρ (.tmp 5) = .int .i64 (k : Int) := (hρ _ (by simp [Op.operands])).trans (by kernel_rfl)
        clear hρ hS
        go_simp
        exact hK _ _ hC (Below.refl _ _) rfl
      · have s12 : v 12 = .bool true := hS 12 rfl
        exact absurd s12 hG
    · -- 15: Op.slice 41 (Operand.tmp 33) none (some (Operand.tmp 34)) none
      refine Spec.tellG 12 true rfl (fun v w hC hS hG ρ hρ K hK => ?_) (fun v w hC hS hG => ?_)
      · have s12 : v 12 = .bool true := hS 12 rfl
        have s13 : v 13 = .slice A0 l.length c0 := hS 13 rfl
        have s14 : v 14 = .int .i64 (k : Int) := hS 14 rfl
        have r33 : ρ (.tmp 33) = .slice A0 l.length c0 := ((hρ _ (by simp [Op.operands])).trans (by kernel_rfl : Spec.look _ _ _ v (.tmp 33) = v 13)).trans s13
        have r34 : ρ (.tmp 34) = .int .i64 (k : Int) := ((hρ _ (by simp [Op.operands])).trans (by kernel_rfl : Spec.look _ _ _ v (.tmp 34) = v 14)).trans s14
        clear hρ hS
        go_simp
        exact hK _ _ hC (Below.refl _ _) rfl
      · have s12 : v 12 = .bool true := hS 12 rfl
        have s13 : v 13 = .slice A0 l.length c0 := hS 13 rfl
        have s14 : v 14 = .int .i64 (k : Int) := hS 14 rfl
        exact absurd s12 hG
    · -- 16: Op.move (Operand.tmp 0)
      refine Spec.tellG 12 true rfl (fun v w hC hS hG ρ hρ K hK => ?_) (fun v w hC hS hG => ?_)
      · have s12 : v 12 = .bool true := hS 12 rfl
        have r0 : ρ (.tmp 0) = .slice A0 l.length c0 := (hρ _ (by simp [Op.operands])).trans (by kernel_rfl)
        clear hρ hS
        go_simp
        exact hK _ _ hC (Below.refl _ _) rfl
      · have s12 : v 12 = .bool true := hS 12 rfl
        exact absurd s12 hG
    · -- 17: Op.move (Operand.tmp 5)
      refine Spec.tellG 12 true rfl (fun v w hC hS hG ρ hρ K hK => ?_) (fun v w hC hS hG => ?_)
      · have s12 : v 12 = .bool true := hS 12 rfl
        have r5 : ρ (.tmp 5) = .int .i64 (k : Int) := (hρ _ (by simp [Op.operands])).trans (by kernel_rfl)
        clear hρ hS
        go_simp
        exact hK _ _ hC (Below.refl _ _) rfl
      · have s12 : v 12 = .bool true := hS 12 rfl
        exact absurd s12 hG
    · -- 18: Op.slice 41 (Operand.tmp 36) (some (Operand.tmp 37)) none none
      refine Spec.tellG 12 true rfl (fun v w hC hS hG ρ hρ K hK => ?_) (fun v w hC hS hG => ?_)
      · have s12 : v 12 = .bool true := hS 12 rfl
        have s16 : v 16 = .slice A0 l.length c0 := hS 16 rfl
        have s17 : v 17 = .int .i64 (k : Int) := hS 17 rfl
        have r36 : ρ (.tmp 36) = .slice A0 l.length c0 := ((hρ _ (by simp [Op.operands])).trans (by kernel_rfl : Spec.look _ _ _ v (.tmp 36) = v 16)).trans s16
        have r37 : ρ (.tmp 37) = .int .i64 (k : Int) := ((hρ _ (by simp [Op.operands])).trans (by kernel_rfl : Spec.look _ _ _ v (.tmp 37) = v 17)).trans s17
        clear hρ hS
        go_simp
        exact hK _ _ hC (Below.refl _ _) rfl
      · have s12 : v 12 = .bool true := hS 12 rfl
        have s16 : v 16 = .slice A0 l.length c0 := hS 16 rfl
        have s17 : v 17 = .int .i64 (k : Int) := hS 17 rfl
        exact absurd s12 hG
    · -- 19: Op.buildSlice 39 3 #[(0, Operand.tmp 35), (1, Operand.const (Value.slice none 0 0)), (2, O
      refine Spec.tellG 12 true rfl (fun v w hC hS hG ρ hρ K hK => ?_) (fun v w hC hS hG => ?_)
      · have s12 : v 12 = .bool true := hS 12 rfl
        have s15 : v 15 = .slice A0 T.length c0 := hS 15 rfl
        have s18 : v 18 = .slice A1 F.length (c0 - k) := hS 18 rfl
        have r35 : ρ (.tmp 35) = .slice A0 T.length c0 := ((hρ _ (by simp [Op.operands])).trans (by kernel_rfl : Spec.look _ _ _ v (.tmp 35) = v 15)).trans s15
        have r38 : ρ (.tmp 38) = .slice A1 F.length (c0 - k) := ((hρ _ (by simp [Op.operands])).trans (by kernel_rfl : Spec.look _ _ _ v (.tmp 38) = v 18)).trans s18
        have c0 : ρ (.const (Value.slice none 0 0)) = (Value.slice none 0 0) := (hρ _ (by simp [Op.operands])).trans (by kernel_rfl)
        clear hρ hS
        go_simp
        exact hK _ _ (below_alloc hC _) (below_alloc (Below.refl _ _) _) ⟨_, rfl, heap_alloc_new _ _⟩
      · have s12 : v 12 = .bool true := hS 12 rfl
        have s15 : v 15 = .slice A0 T.length c0 := hS 15 rfl
        have s18 : v 18 = .slice A1 F.length (c0 - k) := hS 18 rfl
        exact absurd s12 hG
    · -- 20: Op.call { callee := Callee.value (Operand.func 21), args := #[Operand.tmp 39], argTypes :=
      refine Spec.tellG 12 true rfl (fun v w hC hS hG ρ hρ K hK => ?_) (fun v w hC hS hG => ?_)
      · have s12 : v 12 = .bool true := hS 12 rfl
        have s19 : ∃ g, v 19 = .slice (some ⟨g, 0, none⟩) 3 3 ∧ w.heap[g]? = some (.cells #[.slice A0 T.length c0, .slice none 0 0, .slice A1 F.length (c0 - k)] 41) := hS 19 rfl
        obtain ⟨g19, e19, b19⟩ := s19
        have r39 := ((hρ (.tmp 39) (by simp [Op.operands, Call.operands])).trans (by kernel_rfl : Spec.look _ _ _ v (.tmp 39) = v 19)).trans e19
        have f21 : ρ (.func 21) = .func (.func 21) #[] #[] := (hρ _ (by simp [Op.operands, Call.operands])).trans (by kernel_rfl)
        clear hρ hS
        go_simp
        exact (S3'.out _ _ hC b19).mono fun e w' ⟨h1, h2⟩ => ⟨_, h1, hK _ _ (below_then hC hC.size h2.below) h2.below rfl⟩
      · have s12 : v 12 = .bool true := hS 12 rfl
        have s19 : ∃ g, v 19 = .slice (some ⟨g, 0, none⟩) 3 3 ∧ w.heap[g]? = some (.cells #[.slice A0 T.length c0, .slice none 0 0, .slice A1 F.length (c0 - k)] 41) := hS 19 rfl
        obtain ⟨g19, e19, b19⟩ := s19
        exact absurd s12 hG
    · -- 21: Op.move (Operand.tmp 0)
      refine Spec.tellG 12 true rfl (fun v w hC hS hG ρ hρ K hK => ?_) (fun v w hC hS hG => ?_)
      · have s12 : v 12 = .bool true := hS 12 rfl
        have r0 : ρ (.tmp 0) = .slice A0 l.length c0 := (hρ _ (by simp [Op.operands])).trans (by kernel_rfl)
        clear hρ hS
        go_simp
        exact hK _ _ hC (Below.refl _ _) rfl
      · have s12 : v 12 = .bool true := hS 12 rfl
        exact absurd s12 hG
    · -- 22: Op.buildSlice 39 1 #[(0, Operand.tmp 41)]
      refine Spec.tellG 12 true rfl (fun v w hC hS hG ρ hρ K hK => ?_) (fun v w hC hS hG => ?_)
      · have s12 : v 12 = .bool true := hS 12 rfl
        have s21 : v 21 = .slice A0 l.length c0 := hS 21 rfl
        have r41 : ρ (.tmp 41) = .slice A0 l.length c0 := ((hρ _ (by simp [Op.operands])).trans (by kernel_rfl : Spec.look _ _ _ v (.tmp 41) = v 21)).trans s21
        clear hρ hS
        go_simp
        exact hK _ _ (below_alloc hC _) (below_alloc (Below.refl _ _) _) ⟨_, rfl, heap_alloc_new _ _⟩
      · have s12 : v 12 = .bool true := hS 12 rfl
        have s21 : v 21 = .slice A0 l.length c0 := hS 21 rfl
        exact absurd s12 hG
    · -- 23: Op.call { callee := Callee.value (Operand.func 21), args := #[Operand.tmp 42], argTypes :=
      refine Spec.tellG 12 true rfl (fun v w hC hS hG ρ hρ K hK => ?_) (fun v w hC hS hG => ?_)
      · have s12 : v 12 = .bool true := hS 12 rfl
        have s22 : ∃ g, v 22 = .slice (some ⟨g, 0, none⟩) 1 1 ∧ w.heap[g]? = some (.cells #[.slice A0 l.length c0] 41) := hS 22 rfl
        obtain ⟨g22, e22, b22⟩ := s22
        have r42 := ((hρ (.tmp 42) (by simp [Op.operands, Call.operands])).trans (by kernel_rfl : Spec.look _ _ _ v (.tmp 42) = v 22)).trans e22
        have f21 : ρ (.func 21) = .func (.func 21) #[] #[] := (hρ _ (by simp [Op.operands, Call.operands])).trans (by kernel_rfl)
        clear hρ hS
        go_simp
        exact (S1'.out _ _ hC b22).mono fun e w' ⟨h1, h2⟩ => ⟨_, h1, hK _ _ (below_then hC hC.size h2.below) h2.below rfl⟩
      · have s12 : v 12 = .bool true := hS 12 rfl
        have s22 : ∃ g, v 22 = .slice (some ⟨g, 0, none⟩) 1 1 ∧ w.heap[g]? = some (.cells #[.slice A0 l.length c0] 41) := hS 22 rfl
        obtain ⟨g22, e22, b22⟩ := s22
        exact absurd s12 hG
    · -- 24: Op.binOp BinOp.eql 45 (Operand.tmp 40) (Operand.tmp 43) 45
      refine Spec.tellG 12 true rfl (fun v w hC hS hG ρ hρ K hK => ?_) (fun v w hC hS hG => ?_)
      · have s12 : v 12 = .bool true := hS 12 rfl
        have s20 : v 20 = .int .u16 s := hS 20 rfl
        have s23 : v 23 = .int .u16 s := hS 23 rfl
        have r40 : ρ (.tmp 40) = .int .u16 s := ((hρ _ (by simp [Op.operands])).trans (by kernel_rfl : Spec.look _ _ _ v (.tmp 40) = v 20)).trans s20
        have r43 : ρ (.tmp 43) = .int .u16 s := ((hρ _ (by simp [Op.operands])).trans (by kernel_rfl : Spec.look _ _ _ v (.tmp 43) = v 23)).trans s23
        clear hρ hS
        go_simp
        exact hK _ _ hC (Below.refl _ _) rfl
      · have s12 : v 12 = .bool true := hS 12 rfl
        have s20 : v 20 = .int .u16 s := hS 20 rfl
        have s23 : v 23 = .int .u16 s := hS 23 rfl
        exact absurd s12 hG
    · -- 25: Op.pick (Operand.tmp 32) (Operand.tmp 44) (Operand.const (Value.bool false))
      refine Spec.tell rfl fun v w hC hS ρ hρ K hK => ?_
      have s12 : v 12 = .bool true := hS 12 rfl
      have s24 : v 24 = .bool true := hS 24 rfl
      have r32 : ρ (.tmp 32) = .bool true := ((hρ _ (by simp [Op.operands])).trans (by kernel_rfl : Spec.look _ _ _ v (.tmp 32) = v 12)).trans s12
      have r44 : ρ (.tmp 44) = .bool true := ((hρ _ (by simp [Op.operands])).trans (by kernel_rfl : Spec.look _ _ _ v (.tmp 44) = v 24)).trans s24
      have c0 : ρ (.const (Value.bool false)) = (Value.bool false) := (hρ _ (by simp [Op.operands])).trans (by kernel_rfl)
      clear hρ hS
      go_simp
      exact hK _ _ hC (Below.refl _ _) rfl
    · -- 26: Op.move (Operand.tmp 45)
      refine Spec.tell rfl fun v w hC hS ρ hρ K hK => ?_
      have s25 : v 25 = .bool true := hS 25 rfl
      have r45 : ρ (.tmp 45) = .bool true := ((hρ _ (by simp [Op.operands])).trans (by kernel_rfl : Spec.look _ _ _ v (.tmp 45) = v 25)).trans s25
      clear hρ hS
      go_simp
      exact hK _ _ hC (Below.refl _ _) rfl
    · -- 27: Op.call { callee := Callee.value (Operand.func 19), args := #[Operand.const (Value.slice n
      refine Spec.tellG 26 true rfl (fun v w hC hS hG ρ hρ K hK => ?_) (fun v w hC hS hG => ?_)
      · have s26 : v 26 = .bool true := hS 26 rfl
        have c0 : ρ (.const (Value.slice none 0 0)) = (Value.slice none 0 0) := (hρ _ (by simp [Op.operands, Call.operands])).trans (by kernel_rfl)
        have f19 : ρ (.func 19) = .func (.func 19) #[] #[] := (hρ _ (by simp [Op.operands, Call.operands])).trans (by kernel_rfl)
        clear hρ hS
        go_simp
        exact (T0'.out _).mono fun e w' ⟨h1, h2⟩ => ⟨_, h1, hK _ _ (below_then hC hC.size h2.below) h2.below rfl⟩
      · have s26 : v 26 = .bool true := hS 26 rfl
        exact absurd s26 hG
    · -- 28: Op.binOp BinOp.eql 42 (Operand.tmp 47) (Operand.const (Value.int IntKind.u32 0)) 42
      refine Spec.tellG 26 true rfl (fun v w hC hS hG ρ hρ K hK => ?_) (fun v w hC hS hG => ?_)
      · have s26 : v 26 = .bool true := hS 26 rfl
        have s27 : v 27 = .int .u32 0 := hS 27 rfl
        have r47 : ρ (.tmp 47) = .int .u32 0 := ((hρ _ (by simp [Op.operands])).trans (by kernel_rfl : Spec.look _ _ _ v (.tmp 47) = v 27)).trans s27
        have c0 : ρ (.const (Value.int IntKind.u32 0)) = (Value.int IntKind.u32 0) := (hρ _ (by simp [Op.operands])).trans (by kernel_rfl)
        clear hρ hS
        go_simp
        exact hK _ _ hC (Below.refl _ _) rfl
      · have s26 : v 26 = .bool true := hS 26 rfl
        have s27 : v 27 = .int .u32 0 := hS 27 rfl
        exact absurd s26 hG
    · -- 29: Op.pick (Operand.tmp 46) (Operand.tmp 48) (Operand.const (Value.bool false))
      refine Spec.tell rfl fun v w hC hS ρ hρ K hK => ?_
      have s26 : v 26 = .bool true := hS 26 rfl
      have s28 : v 28 = .bool true := hS 28 rfl
      have r46 : ρ (.tmp 46) = .bool true := ((hρ _ (by simp [Op.operands])).trans (by kernel_rfl : Spec.look _ _ _ v (.tmp 46) = v 26)).trans s26
      have r48 : ρ (.tmp 48) = .bool true := ((hρ _ (by simp [Op.operands])).trans (by kernel_rfl : Spec.look _ _ _ v (.tmp 48) = v 28)).trans s28
      have c0 : ρ (.const (Value.bool false)) = (Value.bool false) := (hρ _ (by simp [Op.operands])).trans (by kernel_rfl)
      clear hρ hS
      go_simp
      exact hK _ _ hC (Below.refl _ _) rfl
    · -- 30: Op.move (Operand.tmp 49)
      refine Spec.tell rfl fun v w hC hS ρ hρ K hK => ?_
      have s29 : v 29 = .bool true := hS 29 rfl
      have r49 : ρ (.tmp 49) = .bool true := ((hρ _ (by simp [Op.operands])).trans (by kernel_rfl : Spec.look _ _ _ v (.tmp 49) = v 29)).trans s29
      clear hρ hS
      go_simp
      exact hK _ _ hC (Below.refl _ _) rfl
    · -- 31: Op.call { callee := Callee.value (Operand.func 21), args := #[Operand.const (Value.slice n
      refine Spec.tellG 30 true rfl (fun v w hC hS hG ρ hρ K hK => ?_) (fun v w hC hS hG => ?_)
      · have s30 : v 30 = .bool true := hS 30 rfl
        have c0 : ρ (.const (Value.slice none 0 0)) = (Value.slice none 0 0) := (hρ _ (by simp [Op.operands, Call.operands])).trans (by kernel_rfl)
        have f21 : ρ (.func 21) = .func (.func 21) #[] #[] := (hρ _ (by simp [Op.operands, Call.operands])).trans (by kernel_rfl)
        clear hρ hS
        go_simp
        exact (S0'.out _).mono fun e w' ⟨h1, h2⟩ => ⟨_, h1, hK _ _ (below_then hC hC.size h2.below) h2.below rfl⟩
      · have s30 : v 30 = .bool true := hS 30 rfl
        exact absurd s30 hG
    · -- 32: Op.binOp BinOp.eql 45 (Operand.tmp 51) (Operand.const (Value.int IntKind.u16 65535)) 45
      refine Spec.tellG 30 true rfl (fun v w hC hS hG ρ hρ K hK => ?_) (fun v w hC hS hG => ?_)
      · have s30 : v 30 = .bool true := hS 30 rfl
        have s31 : v 31 = .int .u16 65535 := hS 31 rfl
        have r51 : ρ (.tmp 51) = .int .u16 65535 := ((hρ _ (by simp [Op.operands])).trans (by kernel_rfl : Spec.look _ _ _ v (.tmp 51) = v 31)).trans s31
        have c0 : ρ (.const (Value.int IntKind.u16 65535)) = (Value.int IntKind.u16 65535) := (hρ _ (by simp [Op.operands])).trans (by kernel_rfl)
        clear hρ hS
        go_simp
        exact hK _ _ hC (Below.refl _ _) rfl
      · have s30 : v 30 = .bool true := hS 30 rfl
        have s31 : v 31 = .int .u16 65535 := hS 31 rfl
        exact absurd s30 hG
    · -- 33: Op.pick (Operand.tmp 50) (Operand.tmp 52) (Operand.const (Value.bool false))
      refine Spec.tell rfl fun v w hC hS ρ hρ K hK => ?_
      have s30 : v 30 = .bool true := hS 30 rfl
      have s32 : v 32 = .bool true := hS 32 rfl
      have r50 : ρ (.tmp 50) = .bool true := ((hρ _ (by simp [Op.operands])).trans (by kernel_rfl : Spec.look _ _ _ v (.tmp 50) = v 30)).trans s30
      have r52 : ρ (.tmp 52) = .bool true := ((hρ _ (by simp [Op.operands])).trans (by kernel_rfl : Spec.look _ _ _ v (.tmp 52) = v 32)).trans s32
      have c0 : ρ (.const (Value.bool false)) = (Value.bool false) := (hρ _ (by simp [Op.operands])).trans (by kernel_rfl)
      clear hρ hS
      go_simp
      exact hK _ _ hC (Below.refl _ _) rfl
    · -- 34: Op.assign (Operand.tmp 53)
      refine Spec.tell rfl fun v w hC hS ρ hρ K hK => ?_
      have s33 : v 33 = .bool true := hS 33 rfl
      have r53 : ρ (.tmp 53) = .bool true := ((hρ _ (by simp [Op.operands])).trans (by kernel_rfl : Spec.look _ _ _ v (.tmp 53) = v 33)).trans s33
      clear hρ hS
      go_simp
      exact hK _ _ hC (Below.refl _ _) rfl
  case end_4 =>
    intro v w' hC hS
    have s34 : v 34 = .bool true := hS 34 (by decide)
    clear hS
    simp only [Spec.putAll, Act.put, List.setIfInBounds_toArray, List.set_cons_zero, List.set_cons_succ]
    generalize v 0 = x0
    generalize v 1 = x1
    generalize v 2 = x2
    generalize v 3 = x3
    generalize v 4 = x4
    generalize v 5 = x5
    generalize v 6 = x6
    generalize v 7 = x7
    generalize v 8 = x8
    generalize v 9 = x9
    generalize v 10 = x10
    generalize v 11 = x11
    generalize v 12 = x12
    generalize v 13 = x13
    generalize v 14 = x14
    generalize v 15 = x15
    generalize v 16 = x16
    generalize v 17 = x17
    generalize v 18 = x18
    generalize v 19 = x19
    generalize v 20 = x20
    generalize v 21 = x21
    generalize v 22 = x22
    generalize v 23 = x23
    generalize v 24 = x24
    generalize v 25 = x25
    generalize v 26 = x26
    generalize v 27 = x27
    generalize v 28 = x28
    generalize v 29 = x29
    generalize v 30 = x30
    generalize v 31 = x31
    generalize v 32 = x32
    generalize v 33 = x33
    rw [s34]; clear s34
    go_wp2_with fail
    go_ret
    exact ⟨rfl, below_then hb1.out hb1.out.size hC⟩
end Go.Proofs.Ytdcljkdbdjbjiaa.PCrcSums
