/- The map in memory: made, copied, compared. Conditions: as each lemma says. -/
import Derived.Test.YtcknljndogbbhaaBm2
import Derived.Test.YtcknljndogbbhaaSpec
import Derived.WalkSpells
namespace Go.Proofs.Ytcknljndogbbhaa.Bm
open Go.RowKit Go.Proofs.Ytcknljndogbbhaa Go.Proofs.Ytcknljndogbbhaa.PAll Go.Proofs.YtcknljndogbbhaaW.PrintWords Go.Proofs.YtcknljndogbbhaaW.PrintLast Go.Proofs.YtcknljndogbbhaaW.PrintMore
attribute [local go_sem] max2_int min2_int max_two min_two
set_option linter.unusedVariables false
/-- A row of words in memory. -/
structure RowAt (W : World) (b : Nat) (ws : List Int) (c : Nat) (cs : Array Value) : Prop where
  bl : W.heap[b]? = some (.cells cs 39 (0, 0))
  at_ : ∀ i, i < ws.length → cs[i]? = some (.int .u64 (rd ws i))
  le : ws.length ≤ c
theorem RowAt.is {W : World} {b g : Nat} {ws : List Int} {c : Nat} {cs : Array Value} (h : RowAt W b ws c cs) (n : Int) (hg : W.heap[g]? = some (.cells #[.int .i64 n, .slice (some ⟨b, 0, none⟩) ws.length c] 85 (0, 0))) : Is W g b n ws c cs := ⟨hg, h.bl, h.at_, h.le⟩
theorem Is.row {W : World} {b g : Nat} {n : Int} {ws : List Int} {c : Nat} {cs : Array Value} (h : Is W g b n ws c cs) : RowAt W b ws c cs := ⟨h.bl, h.at_, h.le⟩
theorem RowAt.keep {W W' : World} {b : Nat} {ws : List Int} {c : Nat} {cs : Array Value} (h : RowAt W b ws c cs) (hb : W'.heap[b]? = W.heap[b]?) : RowAt W' b ws c cs := ⟨hb.trans h.bl, h.at_, h.le⟩
theorem RowAt.C {W : World} {b : Nat} {ws : List Int} {c : Nat} {cs : Array Value} (h : RowAt W b ws c cs) (hm : ws.length ≤ 9223372036854775807) : Kd.C (Kd.int .u64) W (some ⟨b, 0, none⟩) ws.length ws :=
  Mem.C_cells_int hm (fun j x hx => by
    have hj := (List.getElem?_eq_some_iff.1 hx).1
    rw [add_plain, blk_cell h.bl, h.at_ j hj]
    simp [rd, hx, List.getD_eq_getElem?_getD])
theorem row_of_own {W : World} {base : Nat} {v : Value} {ws : List Int} (h : W.ownsRow base 39 1 v ws.length (nums .u64 ws)) (hv : v ≠ .slice none 0 0) :
    ∃ b c cs, v = .slice (some ⟨b, 0, none⟩) ws.length c ∧ base ≤ b ∧ RowAt W b ws c cs := by
  rcases h.2 with ⟨h1, _⟩ | ⟨g, cap, cur, h1, h2, h3, h4, _, h5, h6⟩
  · exact absurd h1 hv
  · refine ⟨g, cap, cur, h1, h2, h3, fun i hi => ?_, h4⟩
    have : (cur.toList.take (ws.length * 1))[i]? = (nums .u64 ws)[i]? := by rw [h6]
    rw [List.getElem?_take_of_lt (by omega)] at this
    rw [← Array.getElem?_toList, this]
    simp [nums, rd, hi]
theorem zero_some : (Value.int .u64 0).cells.size = 1 := rfl
set_option maxHeartbeats 1000000 in
theorem clone_calls {W : World} (ad : Addr) (c : Nat) (ws : List Int) (hC : Kd.C (Kd.int .u64) W (some ad) ws.length ws) (hl : ws.length ≤ 100000) :
    Calls Try.prog 48 #[.slice (some ad) ws.length c] W fun e w' => ∃ b' c' cs', e = .returned (.slice (some ⟨b', 0, none⟩) ws.length c') ∧ W.heap.size ≤ b' ∧ RowAt w' b' ws c' cs' ∧ Below W.heap.size W w' := by
  have heq := fun (w : World) => Lib.run_eql_slice_nil (P := Try.prog) w 32 39 (some ad) ws.length c 0 0 Try.underlying32
  obtain ⟨i0, hi0, hz0, hz1, hz2⟩ := info_parts info39
  have HI := Aside0.mk (And.intro hi0 (And.intro hz0 (And.intro hz1 hz2)))
  have HC := Aside0.mk hC
  clear hi0 hz0 hz1 hz2 hC
  go_enter Try.func48, Try.ntmps48
  have hown0 := own_lit W W.heap.size 39 .u64 [] (Nat.le_refl _) (by simp)
  have hcell : ∀ j u, (nums .u64 ws)[j]? = some u → (W.alloc (.cells #[] 39)).cell? (ad.add j) = some u := by
    intro j u hu
    have hj : j < ws.length := by have := (List.getElem?_eq_some_iff.1 hu).1; simpa [nums] using this
    obtain ⟨ad', ea, hc⟩ := C_at (Kd.C_below HC.out (below_alloc (Below.refl _ _) (.cells #[] 39))) j hj
    cases ea
    rw [hc]
    simp [nums, hj] at hu
    rw [← hu]
    simp [rd, hj]
  have HO := Aside0.mk hown0
  have HCE := Aside0.mk hcell
  clear hown0 hcell
  go_wp2_with (at_builtin; refine wpList_append_own _ rfl _ _ 32 rfl W.heap.size 39 i0 (.int .u64 0) 1 8 Try.underlying32 HI.out.1 HI.out.2.1 HI.out.2.2.1 HI.out.2.2.2 rfl (by decide) (.slice (some ⟨W.heap.size, 0, none⟩) 0 0) 0 [] rfl HO.out ad ws.length c (nums .u64 ws) rfl (by rw [nums_length, Nat.mul_one]) HCE.out (by simp [nums, Value.oneCell']) (by unfold maxLen; omega) (by omega) (by simp) ?_; intro v' w1 hown hgrow hnil)
  go_ret
  rw [Nat.zero_add, List.nil_append] at hown
  obtain ⟨b, c', cs', rfl, hb, hrow⟩ := row_of_own hown (fun e => by simpa using hnil.1 e)
  refine ⟨b, c', cs', rfl, hb, hrow, ?_⟩
  exact pw_below_grown (below_alloc (Below.refl _ _) (.cells #[] 39)) _ (by simp) hgrow (fun k hk => by simp [Value.ownBlock] at hk; omega)
theorem words_calls {W : World} {g b : Nat} {n : Int} {ws : List Int} {c : Nat} {cs : Array Value} (h : Is W g b n ws c cs) (hl : ws.length ≤ 100000) :
    Calls Try.prog 23 #[.pointer (some ⟨g, 0, none⟩)] W fun e w' => ∃ b' c' cs', e = .returned (.slice (some ⟨b', 0, none⟩) ws.length c') ∧ W.heap.size ≤ b' ∧ RowAt w' b' ws c' cs' ∧ Below W.heap.size W w' := by
  have e0 := h.c0
  have e1 := h.c1
  have HC := Aside0.mk (clone_calls (W := W) ⟨b, 0, none⟩ c ws (h.row.C (by omega)) hl)
  clear h
  go_enter Try.func23, Try.ntmps23
  go_wp2_with (go_at_call 48; refine HC.out.mono ?_; rintro e w' ⟨b', c', cs', rfl, hb, hr, hB⟩)
  go_ret
  exact ⟨b', c', cs', rfl, hb, hr, hB⟩
/-- How many blocks a new map has. -/
def clampN (a : Int) : Nat := if a ≤ 0 then 0 else if 65534 < a then 65534 else a.toNat
theorem rd_replicate (m : Nat) (i : Int) : rd (List.replicate m 0) i = 0 := by
  unfold rd
  rw [List.getD_eq_getElem?_getD, List.getElem?_replicate]
  split <;> rfl
theorem ret_int {k : IntKind} {a b : Int} (h : a = b) : Ending.returned (.int k a) = .returned (.int k b) := by rw [h]
theorem nwords_calls (W : World) (n : Nat) (hn : n ≤ 65534) : Calls Try.prog 45 #[.int .i64 n] W fun e w' => e = .returned (.int .i64 ((n + 63) / 64 : Nat)) ∧ W = w' := by
  go_enter Try.func45, Try.ntmps45
  go_wp2
  go_ret
  exact ⟨ret_int (by omega), rfl⟩
theorem made_at (N i : Nat) (h : i < N) : (madeCells #[Value.int .u64 0] N)[i]? = some (.int .u64 0) := by simp [madeCells, h, Nat.mod_one]
theorem new_is (W : World) (N n : Nat) (hN : N = (n + 63) / 64) :
    Is ((W.alloc (.cells (madeCells #[.int .u64 0] N) 39)).alloc (.cells #[.int .i64 n, .slice (some ⟨W.heap.size, 0, none⟩) N N] 85)) (W.heap.size + 1) W.heap.size n (List.replicate ((n + 63) / 64) 0) N (madeCells #[.int .u64 0] N) := by
  subst hN
  refine ⟨?_, blk_alloc (heap_alloc_new _ _) _, fun i hi => ?_, by simp⟩
  · have := heap_alloc_new (W.alloc (.cells (madeCells #[.int .u64 0] ((n + 63) / 64)) 39)) (.cells #[.int .i64 n, .slice (some ⟨W.heap.size, 0, none⟩) ((n + 63) / 64) ((n + 63) / 64)] 85)
    simpa using this
  · rw [List.length_replicate] at hi
    rw [rd_replicate]; exact made_at _ _ hi
set_option maxHeartbeats 1000000 in
theorem new_calls (W : World) (a : Int) :
    Calls Try.prog 13 #[.int .i64 a] W fun e w' => ∃ g b c cs, e = .returned (.pointer (some ⟨g, 0, none⟩)) ∧ Is w' g b (clampN a) (List.replicate ((clampN a + 63) / 64) 0) c cs ∧ W.heap.size ≤ g ∧ W.heap.size ≤ b ∧ Below W.heap.size W w' := by
  obtain ⟨A, hm⟩ : ∃ A : Nat, (if 0 < a then a else 0) = (A : Int) := ⟨a.toNat, by split <;> omega⟩
  have hcl : clampN a = if A ≤ 65534 then A else 65534 := by unfold clampN; split at hm <;> (repeat' split) <;> omega
  have HCL := Aside0.mk hcl
  clear hcl
  by_cases hA : A ≤ 65534
  · have hAi : (A : Int) ≤ 65534 := by omega
    obtain ⟨N, hN⟩ : ∃ N : Nat, N = (A + 63) / 64 := ⟨_, rfl⟩
    have hmk := fun W => run_make_row' (P := Try.prog) 32 39 (.int .u64 0) 8 Try.underlying32 info39 rfl .i64 .i64 N (by omega) (by omega) W
    have HN := Aside0.mk hN
    clear hN
    go_enter Try.func13, Try.ntmps13
    go_wp2_with (go_at_call 45; refine (nwords_calls _ A (by omega)).mono ?_; rintro e w' ⟨rfl, rfl⟩; rw [← HN.out])
    go_ret
    rw [show clampN a = A from by rw [HCL.out, if_pos hA]]
    exact ⟨_, _, _, _, rfl, new_is W N A HN.out, by simp, Nat.le_refl _, below_alloc (below_alloc (Below.refl _ _) _) _⟩
  · have hAi : ¬ (A : Int) ≤ 65534 := by omega
    have hmk : ∀ W : World, (Instr.makeSlice 32 (.int .i64 1024) (.int .i64 1024)).run Try.prog W = .ok (.slice (some ⟨W.heap.size, 0, none⟩) 1024 1024) (W.alloc (.cells (madeCells #[.int .u64 0] 1024) 39)) :=
      fun W => run_make_row' (P := Try.prog) 32 39 (.int .u64 0) 8 Try.underlying32 info39 rfl .i64 .i64 1024 (by omega) (by omega) W
    have hnw : ∀ W : World, Calls Try.prog 45 #[.int .i64 65534] W fun e w' => e = .returned (.int .i64 1024) ∧ W = w' := fun W => nwords_calls W 65534 (by omega)
    have HNW := Aside0.mk hnw
    clear hnw
    go_enter Try.func13, Try.ntmps13
    go_wp2_with (go_at_call 45; refine (HNW.out _).mono ?_; rintro e w' ⟨rfl, rfl⟩)
    go_ret
    rw [show clampN a = 65534 from by rw [HCL.out, if_neg hA]]
    exact ⟨_, _, _, _, rfl, new_is W 1024 65534 rfl, by simp, Nat.le_refl _, below_alloc (below_alloc (Below.refl _ _) _) _⟩
theorem RowAt.below {W W' : World} {b : Nat} {ws : List Int} {c : Nat} {cs : Array Value} (h : RowAt W b ws c cs) (hb : Below W.heap.size W W') : RowAt W' b ws c cs := h.keep (hb.block b (blk_lt h.bl))
theorem Is.below {W W' : World} {g b : Nat} {n : Int} {ws : List Int} {c : Nat} {cs : Array Value} (h : Is W g b n ws c cs) (hb : Below W.heap.size W W') : Is W' g b n ws c cs := h.keep (hb.block g (blk_lt h.st)) (hb.block b (blk_lt h.bl))
set_option maxHeartbeats 2000000 in
theorem copy_calls {W0 : World} {g b : Nat} {n : Int} {ws : List Int} {c : Nat} {cs : Array Value} (h : Is W0 g b n ws c cs) (hl : ws.length ≤ 100000) :
    Calls Try.prog 30 #[.pointer (some ⟨g, 0, none⟩)] W0 fun e w' => ∃ g' b' c' cs', e = .returned (.pointer (some ⟨g', 0, none⟩)) ∧ Is w' g' b' n ws c' cs' ∧ W0.heap.size ≤ g' ∧ W0.heap.size ≤ b' ∧ Below W0.heap.size W0 w' := by
  have HI := Aside0.mk h
  have HCL : ∀ W : World, Below W0.heap.size W0 W → Calls Try.prog 48 #[.slice (some ⟨b, 0, none⟩) ws.length c] W fun e w' => ∃ b' c' cs', e = .returned (.slice (some ⟨b', 0, none⟩) ws.length c') ∧ W.heap.size ≤ b' ∧ RowAt w' b' ws c' cs' ∧ Below W.heap.size W w' :=
    fun W hB => clone_calls ⟨b, 0, none⟩ c ws ((h.row.below hB).C (by omega)) hl
  have HC := Aside0.mk HCL
  clear HCL h
  go_enter Try.func30, Try.ntmps30
  go_wp2_with fail
  refine Spec.wp_told (F := fun j => [0, 1, 3, 7, 0, 16, 48, 112, 240, 511, 1023, 2047].getD j 0) (C := fun W => Below W0.heap.size W0 W) (S := Spec.at_ [fun u W => u = .pointer (some ⟨g, 0, none⟩), fun u W => u = .pointer (some ⟨g, 0, none⟩), fun u W => u = .pointer (some ⟨g, 0, none⟩), fun u W => u = .int .i64 n, fun u W => u = .pointer (some ⟨g, 0, none⟩), fun u W => u = .pointer (some ⟨g, 0, none⟩), fun u W => u = .pointer (some ⟨g, 1, none⟩), fun u W => u = .slice (some ⟨b, 0, none⟩) ws.length c, fun u W => ∃ b' c' cs', u = .slice (some ⟨b', 0, none⟩) ws.length c' ∧ W0.heap.size ≤ b' ∧ RowAt W b' ws c' cs', fun u W => ∃ b' c' cs', u = .agg #[.int .i64 n, .slice (some ⟨b', 0, none⟩) ws.length c'] ∧ W0.heap.size ≤ b' ∧ RowAt W b' ws c' cs', fun u W => ∃ g' b' c' cs', u = .pointer (some ⟨g', 0, none⟩) ∧ W0.heap.size ≤ g' ∧ W0.heap.size ≤ b' ∧ Is W g' b' n ws c' cs', fun u W => ∃ g' b' c' cs', u = .pointer (some ⟨g', 0, none⟩) ∧ W0.heap.size ≤ g' ∧ W0.heap.size ≤ b' ∧ Is W g' b' n ws c' cs']) (Kp := fun W W' => Below W.heap.size W W') (by kernel_rfl) (by kernel_rfl) (Spec.AllStay.at_ ?stay_1) ?start_1 ?ops_1 ?end_1
  case stay_1 =>
    exact ⟨fun _ _ _ _ h => h, fun _ _ _ _ h => h, fun _ _ _ _ h => h, fun _ _ _ _ h => h, fun _ _ _ _ h => h, fun _ _ _ _ h => h, fun _ _ _ _ h => h, fun _ _ _ _ h => h, fun _ _ _ hk ⟨b', c', cs', e, h1, h2⟩ => ⟨b', c', cs', e, h1, h2.below hk⟩, fun _ _ _ hk ⟨b', c', cs', e, h1, h2⟩ => ⟨b', c', cs', e, h1, h2.below hk⟩, fun _ _ _ hk ⟨g', b', c', cs', e, h1, h2, h3⟩ => ⟨g', b', c', cs', e, h1, h2, h3.below hk⟩, fun _ _ _ hk ⟨g', b', c', cs', e, h1, h2, h3⟩ => ⟨g', b', c', cs', e, h1, h2, h3.below hk⟩, trivial⟩
  case start_1 =>
    exact below_drew (Below.refl _ _)
  case ops_1 =>
    refine ⟨?_, ?_, ?_, ?_, ?_, ?_, ?_, ?_, ?_, ?_, ?_, ?_, trivial⟩
    · -- 0: Op.move (Operand.tmp 0)
      refine Spec.tell rfl fun v w hC hS ρ hρ K hK => ?_
      have r0 : ρ (.tmp 0) = .pointer (some ⟨g, 0, none⟩) := (hρ _ (by simp [Op.operands])).trans (by kernel_rfl)
      clear hρ hS
      go_simp
      exact hK _ _ hC (Below.refl _ _) rfl
    · -- 1: Op.nilCheck (Operand.tmp 3)
      refine Spec.tell rfl fun v w hC hS ρ hρ K hK => ?_
      have s0 : v 0 = .pointer (some ⟨g, 0, none⟩) := hS 0 rfl
      have r3 : ρ (.tmp 3) = .pointer (some ⟨g, 0, none⟩) := ((hρ _ (by simp [Op.operands])).trans (by kernel_rfl : Spec.look _ _ _ v (.tmp 3) = v 0)).trans s0
      clear hρ hS
      go_simp
      exact hK _ _ hC (Below.refl _ _) rfl
    · -- 2: Op.fieldAddr 85 (Operand.tmp 4) 0
      refine Spec.tell rfl fun v w hC hS ρ hρ K hK => ?_
      have s1 : v 1 = .pointer (some ⟨g, 0, none⟩) := hS 1 rfl
      have r4 : ρ (.tmp 4) = .pointer (some ⟨g, 0, none⟩) := ((hρ _ (by simp [Op.operands])).trans (by kernel_rfl : Spec.look _ _ _ v (.tmp 4) = v 1)).trans s1
      clear hρ hS
      go_simp
      exact hK _ _ hC (Below.refl _ _) rfl
    · -- 3: Op.load 3 (Operand.tmp 5)
      refine Spec.tell rfl fun v w hC hS ρ hρ K hK => ?_
      have s2 : v 2 = .pointer (some ⟨g, 0, none⟩) := hS 2 rfl
      have r5 : ρ (.tmp 5) = .pointer (some ⟨g, 0, none⟩) := ((hρ _ (by simp [Op.operands])).trans (by kernel_rfl : Spec.look _ _ _ v (.tmp 5) = v 2)).trans s2
      clear hρ hS
      have q0 := (HI.out.below hC).c0
      go_simp
      exact hK _ _ hC (Below.refl _ _) rfl
    · -- 4: Op.move (Operand.tmp 0)
      refine Spec.tell rfl fun v w hC hS ρ hρ K hK => ?_
      have r0 : ρ (.tmp 0) = .pointer (some ⟨g, 0, none⟩) := (hρ _ (by simp [Op.operands])).trans (by kernel_rfl)
      clear hρ hS
      go_simp
      exact hK _ _ hC (Below.refl _ _) rfl
    · -- 5: Op.nilCheck (Operand.tmp 7)
      refine Spec.tell rfl fun v w hC hS ρ hρ K hK => ?_
      have s4 : v 4 = .pointer (some ⟨g, 0, none⟩) := hS 4 rfl
      have r7 : ρ (.tmp 7) = .pointer (some ⟨g, 0, none⟩) := ((hρ _ (by simp [Op.operands])).trans (by kernel_rfl : Spec.look _ _ _ v (.tmp 7) = v 4)).trans s4
      clear hρ hS
      go_simp
      exact hK _ _ hC (Below.refl _ _) rfl
    · -- 6: Op.fieldAddr 85 (Operand.tmp 8) 1
      refine Spec.tell rfl fun v w hC hS ρ hρ K hK => ?_
      have s5 : v 5 = .pointer (some ⟨g, 0, none⟩) := hS 5 rfl
      have r8 : ρ (.tmp 8) = .pointer (some ⟨g, 0, none⟩) := ((hρ _ (by simp [Op.operands])).trans (by kernel_rfl : Spec.look _ _ _ v (.tmp 8) = v 5)).trans s5
      clear hρ hS
      go_simp
      exact hK _ _ hC (Below.refl _ _) rfl
    · -- 7: Op.load 32 (Operand.tmp 9)
      refine Spec.tell rfl fun v w hC hS ρ hρ K hK => ?_
      have s6 : v 6 = .pointer (some ⟨g, 1, none⟩) := hS 6 rfl
      have r9 : ρ (.tmp 9) = .pointer (some ⟨g, 1, none⟩) := ((hρ _ (by simp [Op.operands])).trans (by kernel_rfl : Spec.look _ _ _ v (.tmp 9) = v 6)).trans s6
      clear hρ hS
      have q1 := (HI.out.below hC).c1
      go_simp
      exact hK _ _ hC (Below.refl _ _) rfl
    · -- 8: Op.call { callee := Callee.value (Operand.func 48), args := #[Operand.tmp 10], argTypes :=
      refine Spec.tell rfl fun v w hC hS ρ hρ K hK => ?_
      have s7 : v 7 = .slice (some ⟨b, 0, none⟩) ws.length c := hS 7 rfl
      have r10 : ρ (.tmp 10) = .slice (some ⟨b, 0, none⟩) ws.length c := ((hρ _ (by simp [Op.operands, Call.operands])).trans (by kernel_rfl : Spec.look _ _ _ v (.tmp 10) = v 7)).trans s7
      have f48 : ρ (.func 48) = .func (.func 48) #[] #[] := (hρ _ (by simp [Op.operands, Call.operands])).trans (by kernel_rfl)
      clear hρ hS
      go_simp
      refine (HC.out _ hC).mono fun e w' ⟨b', c', cs', h1, h2, h3, h4⟩ => ⟨_, h1, hK _ _ (below_then hC hC.size h4) h4 ⟨b', c', cs', rfl, Nat.le_trans hC.size h2, h3⟩⟩
    · -- 9: Op.build 85 #[(0, Operand.tmp 6), (1, Operand.tmp 11)]
      refine Spec.tell rfl fun v w hC hS ρ hρ K hK => ?_
      have s3 : v 3 = .int .i64 n := hS 3 rfl
      have s8 : ∃ b' c' cs', v 8 = .slice (some ⟨b', 0, none⟩) ws.length c' ∧ W0.heap.size ≤ b' ∧ RowAt w b' ws c' cs' := hS 8 rfl
      obtain ⟨b8, c8, cs8, e8, l8, r8⟩ := s8
      have r6 : ρ (.tmp 6) = .int .i64 n := ((hρ _ (by simp [Op.operands])).trans (by kernel_rfl : Spec.look _ _ _ v (.tmp 6) = v 3)).trans s3
      have r11 := ((hρ (.tmp 11) (by simp [Op.operands])).trans (by kernel_rfl : Spec.look _ _ _ v (.tmp 11) = v 8)).trans e8
      clear hρ hS
      go_simp
      exact hK _ _ hC (Below.refl _ _) ⟨b8, c8, cs8, rfl, l8, r8⟩
    · -- 10: Op.box 85 (Operand.tmp 12)
      refine Spec.tell rfl fun v w hC hS ρ hρ K hK => ?_
      have s9 : ∃ b' c' cs', v 9 = .agg #[.int .i64 n, .slice (some ⟨b', 0, none⟩) ws.length c'] ∧ W0.heap.size ≤ b' ∧ RowAt w b' ws c' cs' := hS 9 rfl
      obtain ⟨b8, c8, cs8, e9, l8, r8⟩ := s9
      have r12 := ((hρ (.tmp 12) (by simp [Op.operands])).trans (by kernel_rfl : Spec.look _ _ _ v (.tmp 12) = v 9)).trans e9
      clear hρ hS
      go_simp
      exact hK _ _ (below_alloc hC _) (below_alloc (Below.refl _ _) _) ⟨_, b8, c8, cs8, rfl, hC.size, l8, (r8.below (below_alloc (Below.refl _ _) _)).is n (heap_alloc_new _ _)⟩
    · -- 11: Op.assign (Operand.tmp 13)
      refine Spec.tell rfl fun v w hC hS ρ hρ K hK => ?_
      have s10 : ∃ g' b' c' cs', v 10 = .pointer (some ⟨g', 0, none⟩) ∧ W0.heap.size ≤ g' ∧ W0.heap.size ≤ b' ∧ Is w g' b' n ws c' cs' := hS 10 rfl
      obtain ⟨g8, b8, c8, cs8, e10, l8, l9, r8⟩ := s10
      have r13 := ((hρ (.tmp 13) (by simp [Op.operands])).trans (by kernel_rfl : Spec.look _ _ _ v (.tmp 13) = v 10)).trans e10
      clear hρ hS
      go_simp
      exact hK _ _ hC (Below.refl _ _) ⟨g8, b8, c8, cs8, rfl, l8, l9, r8⟩
  case end_1 =>
    intro v w' hC hS
    have s11 : ∃ g' b' c' cs', v 11 = .pointer (some ⟨g', 0, none⟩) ∧ W0.heap.size ≤ g' ∧ W0.heap.size ≤ b' ∧ Is w' g' b' n ws c' cs' := hS 11 (by decide)
    clear hS
    simp only [Spec.putAll, Act.put, List.setIfInBounds_toArray, List.set_cons_zero, List.set_cons_succ]
    generalize v 0 = x0
    generalize v 1 = x1
    generalize v 2 = x2
    generalize v 3 = x3
    generalize v 4 = x4
    generalize v 5 = x5
    generalize v 6 = x6
    generalize v 7 = x7
    generalize v 8 = x8
    generalize v 9 = x9
    generalize v 10 = x10
    obtain ⟨g8, b8, c8, cs8, e11, l8, l9, r8⟩ := s11
    rw [e11]
    go_wp2_with fail
    go_ret
    exact ⟨g8, b8, c8, cs8, rfl, r8, l8, l9, hC⟩
/-- Are two rows of words the same? -/
def sameW (ws vs : List Int) : Bool := decide (ws = vs)
set_option maxHeartbeats 2000000 in
theorem same_calls {W : World} {g b g2 b2 : Nat} {n n2 : Int} {ws vs : List Int} {c c2 : Nat} {cs cs2 : Array Value} (h : Is W g b n ws c cs) (h2 : Is W g2 b2 n2 vs c2 cs2) (hl : ws.length ≤ 100000) (hl2 : vs.length ≤ 100000) (k : Nat) (r : Bool) (hr : n = n2 → slices_Equal_uint64_uint64.f k ws vs = some r) :
    Calls Try.prog 31 #[.pointer (some ⟨g, 0, none⟩), .pointer (some ⟨g2, 0, none⟩)] W fun e w' => e = .returned (.bool (decide (n = n2) && r)) ∧ ∃ m, w' = W.drewN m := by
  have e0 := h.c0
  have e1 := h.c1
  have q0 := h2.c0
  have q1 := h2.c1
  by_cases hn : n = n2
  · have H : ∀ m, Calls Try.prog 51 #[.slice (some ⟨b, 0, none⟩) ws.length c, .slice (some ⟨b2, 0, none⟩) vs.length c2] (W.drewN m) fun e w' => e = .returned (.bool r) ∧ ∃ m', w' = (W.drewN m).drewN m' :=
      fun m => (slices_Equal_uint64_uint64.calls k (some ⟨b, 0, none⟩) c ws (some ⟨b2, 0, none⟩) c2 vs r (W.drewN m) (Kd.C_drewN (h.row.C (by omega)) m) h.le (Kd.C_drewN (h2.row.C (by omega)) m) h2.le (hr hn)).mono fun e w' ⟨he, hw⟩ => ⟨he, hw.out⟩
    have H' := Aside0.mk H
    have hb : (n == n2) = true := by simp [hn]
    clear h h2 hr H
    have HN := Aside0.mk hn
    clear hn
    go_enter Try.func31, Try.ntmps31
    go_wp2_with fail
    go_quiet ((go_at_call 51; exact Calls.quiet_of (H'.out _)))
    go_wp2_with fail
    go_ret
    exact ⟨by rw [decide_eq_true HN.out]; rfl, _, rfl⟩
  · have hb : (n == n2) = false := by simp [hn]
    have HN := Aside0.mk hn
    clear h h2 hr hn
    go_enter Try.func31, Try.ntmps31
    go_wp2_with fail
    go_quiet (fail)
    go_wp2_with fail
    go_ret
    exact ⟨by rw [decide_eq_false HN.out]; rfl, _, rfl⟩
end Go.Proofs.Ytcknljndogbbhaa.Bm
