/- GeometryApart: the walk. Conditions: as each lemma says. -/
import Derived.Test.YtcankokamleloaaGaM
import Derived.Test.YtcankokamleloaaSpecL
import Derived.Deep.QuietTactic
import Derived.BigQuiet
namespace Go.Proofs.Ytcankokamleloaa.Ga
open Go.RowKit Go.Proofs.Ytcankokamleloaa Go.Proofs.Ytcankokamleloaa.PAll Go.Proofs.Ytcankokamleloaa.Gp Go.Proofs.YtcankokamleloaaW.PrintWords Go.Proofs.YtcankokamleloaaW.PrintLast Go.Proofs.YtcankokamleloaaW.PrintMore
set_option linter.unusedVariables false
theorem lives7 (w : World) : Calls Try.prog 7 #[] w fun e w' => e = .returned (.bool true) ∧ Below w.heap.size w w' := cantlelaw04_Lives.calls true w (by decide +kernel)
def stage (f0 f1 f2 : Nat → Int) (l6 l15 : Bool) : Nat → Int := if l15 then f2 else if l6 then f1 else f0
theorem made_at (N i : Nat) (h : i < N) : (madeCells #[Value.int .i64 0] N)[i]? = some (.int .i64 0) := by simp [madeCells, h, Nat.mod_one]
set_option maxRecDepth 100000 in
set_option maxHeartbeats 8000000 in
theorem apart_all (a0 a1 a2 : Int) (w0 : World) (h0 : 0 ≤ a0 ∧ a0 < 256) (h1 : 0 ≤ a1 ∧ a1 < 256) (h2 : 0 ≤ a2 ∧ a2 < 256) :
    Calls Try.prog 5 #[.int .u8 a0, .int .u8 a1, .int .u8 a2] w0 fun e w' => e = .returned (.bool true) ∧ Below w0.heap.size w0 w' := by
  obtain ⟨z, hz, hs⟩ := small_is a0 a1 a2 h0 h1 h2
  obtain ⟨N, M, sl, bl, bm, bw, e, n, hg⟩ := geo_of (1 + a0) (1 + a1) z ⟨by omega, by omega⟩ hz
  have hN := hg.hN
  have hM := hg.hM
  rw [hN, hM] at hg hs
  have HS := Aside0.mk hs
  have HE := Aside0.mk hg
  have nb := hg.n1
  clear h0 h1 h2 hz hs hN hM hg
  go_enter Try.func5, Try.ntmps5
  go_wp2_with fail
  refine (lives7 _).mono ?_
  rintro ee w1 ⟨rfl, hb⟩
  have HB0 := Aside0.mk hb
  clear hb
  go_wp2_with fail
  refine (cantlelaw04_small.calls a0 a1 a2 _ _ _ _ HS.out).mono ?_
  rintro ee w2 ⟨rfl, hb⟩
  have HB2 := Aside0.mk (below_then HB0.out HB0.out.size hb)
  clear hb HB0
  go_wp2_with fail
  have HG0 := Aside0.mk (heap_alloc_new w2 (.cells #[.int .i64 (N : Int), .int .i64 (M : Int), .int .i64 z] 24))
  refine (geometry_Geometry_Words.calls (N : Int) (M : Int) z _ _ HE.out.fW).mono ?_
  rintro ee w3 ⟨rfl, hb⟩
  have HG3 := Aside0.mk (blk_below HG0.out hb)
  have HB3 := Aside0.mk (below_then (below_alloc HB2.out _) (below_alloc HB2.out _).size hb)
  clear hb HB2 HG0
  generalize w2.heap.size = gb at HG3 ⊢
  have hmk := fun W => run_make_row' (P := Try.prog) 34 3 (.int .i64 0) 8 Try.underlying34 info3 rfl .i64 .i64 n (by omega) (by omega) W
  have q0 := fun (o o' : Obj) => (blk_cell (blk_alloc (blk_alloc HG3.out o) o') 0).trans rfl
  have q1 := fun (o o' : Obj) => (blk_cell (blk_alloc (blk_alloc HG3.out o) o') 1).trans rfl
  have q2 := fun (o o' : Obj) => (blk_cell (blk_alloc (blk_alloc HG3.out o) o') 2).trans rfl
  go_wp2_with fail
  clear hmk q0 q1 q2
--@REST
  have hH3 := HB3.out.size
  have HC := Aside0.mk (show Cnt ((w3.alloc (.cells (madeCells #[.int .i64 0] n) 3)).alloc (.cells #[.slice (some ⟨w3.heap.size, 0, none⟩) n n] 34)) (w3.heap.size + 1) w3.heap.size n (cov sl bl bm 0 0 0 0) from
    ⟨by have := heap_alloc_new (w3.alloc (.cells (madeCells #[.int .i64 0] n) 3)) (.cells #[.slice (some ⟨w3.heap.size, 0, none⟩) n n] 34); simpa using this, _, blk_alloc (heap_alloc_new w3 (.cells (madeCells #[.int .i64 0] n) 3)) _, fun i hi => by rw [made_at n i hi]; congr 2; unfold cov; rw [if_neg (by omega)]⟩)
  have HG := Aside0.mk (blk_alloc (blk_alloc HG3.out (.cells (madeCells #[.int .i64 0] n) 3)) (.cells #[.slice (some ⟨w3.heap.size, 0, none⟩) n n] 34))
  have HB := Aside0.mk (below_alloc (below_alloc HB3.out (.cells (madeCells #[.int .i64 0] n) 3)) (.cells #[.slice (some ⟨w3.heap.size, 0, none⟩) n n] 34))
  have HNE := Aside0.mk (show gb ≠ w3.heap.size ∧ gb ≠ w3.heap.size + 1 ∧ w0.heap.size ≤ w3.heap.size from by have := blk_lt HG3.out; omega)
  generalize (w3.alloc (.cells (madeCells #[.int .i64 0] n) 3)).alloc (.cells #[.slice (some ⟨w3.heap.size, 0, none⟩) n n] 34) = w4 at HC HG HB ⊢
  generalize w3.heap.size + 1 = vb at HC HNE ⊢
  generalize w3.heap.size = cb at HC HNE ⊢
  clear HG3 HB3 hH3
  have g0 := (blk_cell HG.out 0).trans rfl
  have g1 := (blk_cell HG.out 1).trans rfl
  have g2 := (blk_cell HG.out 2).trans rfl
  refine (geometry_Geometry_Super.calls (N : Int) (M : Int) z _ _ HE.out.fS).mono ?_
  rintro ee w9 ⟨rfl, hb⟩
  have HG9 := Aside0.mk (blk_below HG.out hb)
  have HC9 := Aside0.mk (HC.out.keep (hb.block vb HC.out.lt.1) (hb.block cb HC.out.lt.2))
  have HB9 := Aside0.mk (below_then HB.out HB.out.size hb)
  clear HG HC HB g0 g1 g2 hb
  have HG := HG9
  have HC := HC9
  have HB := HB9
  clear HG9 HC9 HB9
  have g0 := (blk_cell HG.out 0).trans rfl
  have g1 := (blk_cell HG.out 1).trans rfl
  have g2 := (blk_cell HG.out 2).trans rfl
  go_wp2_with fail
  refine (mark_calls w0.heap.size w0 _ vb cb n _ 0 8 HC.out (by have hE := HE.out; have h1 := hE.h3; have h2 := hE.h5; have h3 := hE.esl; have h4 := hE.en; omega) (by have := HE.out.n1; omega) (fun i _ => cov_range _ _ _ _ _ _ _ i) (by omega) HB.out HNE.out.2.2).mono ?_
  rintro ee w9 ⟨rfl, hcc, hbb, hkk⟩
  have HG9 := Aside0.mk ((hkk gb (blk_lt HG.out) HNE.out.1).trans HG.out)
  have HC9 := Aside0.mk (hcc.congr (fun i _ => cov_S sl bl bm N bw 0 0 0 0 (Nat.zero_le _) (Nat.zero_le _) HE.out.h3 (Nat.zero_le _) HE.out.h5 (by have := HE.out.esl; omega) i))
  have HB9 := Aside0.mk hbb
  clear HG HC HB g0 g1 g2 hcc hbb hkk
  have HG := HG9
  have HC := HC9
  have HB := HB9
  clear HG9 HC9 HB9
  have g0 := (blk_cell HG.out 0).trans rfl
  have g1 := (blk_cell HG.out 1).trans rfl
  have g2 := (blk_cell HG.out 2).trans rfl
  go_wp2_with fail
  refine (geometry_Geometry_Record.calls (N : Int) (M : Int) z _ _ HE.out.fR).mono ?_
  rintro ee w9 ⟨rfl, hb⟩
  have HG9 := Aside0.mk (blk_below HG.out hb)
  have HC9 := Aside0.mk (HC.out.keep (hb.block vb HC.out.lt.1) (hb.block cb HC.out.lt.2))
  have HB9 := Aside0.mk (below_then HB.out HB.out.size hb)
  clear HG HC HB g0 g1 g2 hb
  have HG := HG9
  have HC := HC9
  have HB := HB9
  clear HG9 HC9 HB9
  have g0 := (blk_cell HG.out 0).trans rfl
  have g1 := (blk_cell HG.out 1).trans rfl
  have g2 := (blk_cell HG.out 2).trans rfl
  go_wp2_with fail
  refine (mark_calls w0.heap.size w0 _ vb cb n _ 8 8 HC.out (by have hE := HE.out; have h1 := hE.h3; have h2 := hE.h5; have h3 := hE.esl; have h4 := hE.en; omega) (by have := HE.out.n1; omega) (fun i _ => cov_range _ _ _ _ _ _ _ i) (by omega) HB.out HNE.out.2.2).mono ?_
  rintro ee w9 ⟨rfl, hcc, hbb, hkk⟩
  have HG9 := Aside0.mk ((hkk gb (blk_lt HG.out) HNE.out.1).trans HG.out)
  have HC9 := Aside0.mk (hcc.congr (fun i _ => cov_S sl bl bm N bw 8 0 0 0 (by have := HE.out.esl; omega) (Nat.zero_le _) HE.out.h3 (Nat.zero_le _) HE.out.h5 (by have := HE.out.esl; omega) i))
  have HB9 := Aside0.mk hbb
  clear HG HC HB g0 g1 g2 hcc hbb hkk
  have HG := HG9
  have HC := HC9
  have HB := HB9
  clear HG9 HC9 HB9
  have g0 := (blk_cell HG.out 0).trans rfl
  have g1 := (blk_cell HG.out 1).trans rfl
  have g2 := (blk_cell HG.out 2).trans rfl
  go_wp2_with fail
  clear g0 g1 g2
  go_loopw [10, 40] (fun v10 v40 wr => ∃ i : Nat, i ≤ M ∧ v10 = .bool true ∧ v40 = .int .i64 i ∧ Aside0 (wr.heap[gb]? = some (.cells #[.int .i64 (N : Int), .int .i64 (M : Int), .int .i64 z] 24 (0, 0))) ∧ Aside0 (Cnt wr vb cb n (cov sl bl bm (16 + 8 * i) 0 0 0)) ∧ Aside0 (Below w0.heap.size w0 wr)) (fun _ v40 _ => M - (intOf v40).toNat)
  case atStart => exact ⟨0, Nat.zero_le _, rfl, rfl, HG, HC, HB⟩
  case round =>
    clear HG HC HB
    obtain ⟨i, hi, rfl, rfl, HG, HC, HB⟩ := hrel
    have g0 := (blk_cell HG.out 0).trans rfl
    have g1 := (blk_cell HG.out 1).trans rfl
    have g2 := (blk_cell HG.out 2).trans rfl
    by_cases hlt : i < M
    · have d1 : decide ((i : Int) < (M : Int)) = true := decide_eq_true (by omega)
      have dn1 : decide (i < M) = true := decide_eq_true hlt
      have dp1 : (i < M) = True := eq_true hlt
      have hi256 : i ≤ 256 := by have := HE.out.le; omega
      obtain ⟨p, hp⟩ : ∃ p : Nat, 16 + 8 * i = p := ⟨_, rfl⟩
      have hfi := HE.out.fI i hlt
      rw [hp] at hfi HC
      have HFI := Aside0.mk hfi
      have HP := Aside0.mk (And.intro hp hlt)
      clear hfi hp hlt
      go_wp2_with fail
      refine (geometry_Geometry_Inode.calls (N : Int) (M : Int) z (i : Int) _ _ HFI.out).mono ?_
      rintro ee w9 ⟨rfl, hb⟩
      have HG9 := Aside0.mk (blk_below HG.out hb)
      have HC9 := Aside0.mk (HC.out.keep (hb.block vb HC.out.lt.1) (hb.block cb HC.out.lt.2))
      have HB9 := Aside0.mk (below_then HB.out HB.out.size hb)
      clear HG HC HB g0 g1 g2 hb
      have HG := HG9
      have HC := HC9
      have HB := HB9
      clear HG9 HC9 HB9
      have g0 := (blk_cell HG.out 0).trans rfl
      have g1 := (blk_cell HG.out 1).trans rfl
      have g2 := (blk_cell HG.out 2).trans rfl
      go_wp2_with fail
      refine (mark_calls w0.heap.size w0 _ vb cb n _ p 8 HC.out (by have hp := HP.out; have hE := HE.out; have h1 := hE.h3; have h2 := hE.h5; have h3 := hE.esl; have h4 := hE.en; omega) (by have := HE.out.n1; omega) (fun i _ => cov_range _ _ _ _ _ _ _ i) (by have hp := HP.out; omega) HB.out HNE.out.2.2).mono ?_
      rintro ee w9 ⟨rfl, hcc, hbb, hkk⟩
      have HG9 := Aside0.mk ((hkk gb (blk_lt HG.out) HNE.out.1).trans HG.out)
      have HC9 := Aside0.mk (hcc.congr (fun i _ => cov_S sl bl bm N bw p 0 0 0 (by have := HE.out.esl; have := HP.out; omega) (Nat.zero_le _) HE.out.h3 (Nat.zero_le _) HE.out.h5 (by have := HE.out.esl; have := HP.out; omega) i))
      have HB9 := Aside0.mk hbb
      clear HG HC HB g0 g1 g2 hcc hbb hkk
      have HG := HG9
      have HC := HC9
      have HB := HB9
      clear HG9 HC9 HB9
      have g0 := (blk_cell HG.out 0).trans rfl
      have g1 := (blk_cell HG.out 1).trans rfl
      have g2 := (blk_cell HG.out 2).trans rfl
      go_wp2_with fail
      have hp := HP.out
      go_roundw
      case rel => exact ⟨i + 1, by omega, rfl, by go_num, HG, ⟨by rw [show 16 + 8 * (i + 1) = p + 8 from by omega]; exact HC.out⟩, HB⟩
      case measure => simp [intOf]; omega
    · obtain rfl : i = M := by omega
      have d1 : decide ((i : Int) < (i : Int)) = false := decide_eq_false (by omega)
      have dn1 : decide (i < i) = false := decide_eq_false (by omega)
      have HC9 := Aside0.mk (show Cnt wr vb cb n (cov sl bl bm sl 0 0 0) from by have := HC.out; rw [← HE.out.esl] at this; exact this)
      clear HC
      have HC := HC9
      clear HC9 hlt hi
      go_wp2_with fail
      clear g0 g1 g2
      go_loopw [10, 54] (fun v10 v54 wr => ∃ b : Nat, b ≤ N ∧ v10 = .bool true ∧ v54 = .int .i64 b ∧ Aside0 (wr.heap[gb]? = some (.cells #[.int .i64 (N : Int), .int .i64 (i : Int), .int .i64 z] 24 (0, 0))) ∧ Aside0 (Cnt wr vb cb n (cov sl bl bm sl b (b * e) 0)) ∧ Aside0 (Below w0.heap.size w0 wr)) (fun _ v54 _ => N - (intOf v54).toNat)
      case atStart => exact ⟨0, Nat.zero_le _, rfl, rfl, HG, ⟨by rw [Nat.zero_mul]; exact HC.out⟩, HB⟩
      case round =>
        clear HG HC HB
        obtain ⟨b, hb, rfl, rfl, HG, HC, HB⟩ := hrel
        have g0 := (blk_cell HG.out 0).trans rfl
        have g1 := (blk_cell HG.out 1).trans rfl
        have g2 := (blk_cell HG.out 2).trans rfl
        by_cases hlt : b < N
        · have d1 : decide ((b : Int) < (N : Int)) = true := decide_eq_true (by omega)
          have dn1 : decide (b < N) = true := decide_eq_true hlt
          have dp1 : (b < N) = True := eq_true hlt
          have hb256 : b ≤ 256 := by have := HE.out.le; omega
          obtain ⟨p, hp⟩ : ∃ p : Nat, sl + b = p := ⟨_, rfl⟩
          obtain ⟨q, hq⟩ : ∃ q : Nat, b * e = q := ⟨_, rfl⟩
          obtain ⟨r, hr⟩ : ∃ r : Nat, bl + q = r := ⟨_, rfl⟩
          have hfl := HE.out.fL b hlt
          have hfk := HE.out.fK b hlt
          rw [hp] at hfl
          rw [hq, hr] at hfk
          rw [hq] at HC
          have hq1 : q + e ≤ N * e := by have := Nat.mul_le_mul_right e (show b + 1 ≤ N from hlt); rw [Nat.add_mul, Nat.one_mul, hq] at this; exact this
          have hq8 : q % 8 = 0 := by have := HE.out.m3; rw [← hq, Nat.mul_mod, this]; simp
          have hqn : (b + 1) * e = q + e := by rw [Nat.add_mul, Nat.one_mul, hq]
          have hne : N * e + bl = n := by have := HE.out.en; omega
          have HFL := Aside0.mk hfl
          have HFK := Aside0.mk hfk
          have HP := Aside0.mk (And.intro hp (And.intro hr (And.intro hlt (And.intro hq1 (And.intro hq8 (And.intro hqn hne))))))
          clear hfl hfk hp hq hr hlt hq1 hq8 hqn hne
          have hc1 := fun i => cov_s sl bl bm N bw sl b q 0 (Nat.le_refl _) (by have := HP.out; omega) HE.out.h3 (Nat.zero_le _) HE.out.h5 (by have := HP.out; omega) i
          rw [HP.out.1] at hc1
          have hc2 := fun i => cov_K sl bl bm N bw sl (b + 1) q 0 (Nat.le_refl _) (by have := HP.out; omega) HE.out.h3 (Nat.zero_le _) HE.out.h5 e i
          rw [HP.out.2.1] at hc2
          have HC1 := Aside0.mk hc1
          have HC2 := Aside0.mk hc2
          clear hc1 hc2
          go_wp2_with fail
          clear g0 g1 g2
          refine Spec.wp_toldL (F := fun j => [0, 1, 3, 3, 3, 27, 63, 127, 255, 511, 511, 511, 3583, 511, 15871, 32767, 65535, 131071].getD j 0) (C := fun L W => (W.heap[gb]? = some (.cells #[.int .i64 (N : Int), .int .i64 (i : Int), .int .i64 z] 24 (0, 0)) ∧ Below w0.heap.size w0 W) ∧ Cnt W vb cb n (stage (cov sl bl bm sl b q 0) (cov sl bl bm sl (b + 1) q 0) (cov sl bl bm sl (b + 1) (q + e) 0) (L 6) (L 15))) (S := Spec.at_ [fun u W => u = .bool true, fun u W => u = .bool true, fun u W => u = .func (.func 13) #[] #[.pointer (some ⟨vb, 0, none⟩)], fun u W => u = .agg #[.int .i64 (N : Int), .int .i64 (i : Int), .int .i64 z], fun u W => u = .int .i64 (b : Int), fun u W => u = .int .i64 (p : Int), fun u W => u = .bool true, fun u W => u = .bool true, fun u W => u = .bool true, fun u W => u = .func (.func 13) #[] #[.pointer (some ⟨vb, 0, none⟩)], fun u W => u = .agg #[.int .i64 (N : Int), .int .i64 (i : Int), .int .i64 z], fun u W => u = .int .i64 (b : Int), fun u W => u = .int .i64 (r : Int), fun u W => u = .agg #[.int .i64 (N : Int), .int .i64 (i : Int), .int .i64 z], fun u W => u = .int .i64 (e : Int), fun u W => u = .bool true, fun u W => u = .bool true, fun u W => u = .bool true]) (Kp := fun W W' => True) (by kernel_rfl) (by kernel_rfl) (Spec.AllStay.at_ ?stay_15) ?cong_15 ?start_15 ?ops_15 ?end_15
          case cong_15 =>
            intro L L' w h hC; rw [← h 6 (by decide), ← h 15 (by decide)]; exact hC
          case stay_15 =>
            exact ⟨fun _ _ _ _ h => h, fun _ _ _ _ h => h, fun _ _ _ _ h => h, fun _ _ _ _ h => h, fun _ _ _ _ h => h, fun _ _ _ _ h => h, fun _ _ _ _ h => h, fun _ _ _ _ h => h, fun _ _ _ _ h => h, fun _ _ _ _ h => h, fun _ _ _ _ h => h, fun _ _ _ _ h => h, fun _ _ _ _ h => h, fun _ _ _ _ h => h, fun _ _ _ _ h => h, fun _ _ _ _ h => h, fun _ _ _ _ h => h, fun _ _ _ _ h => h, trivial⟩
          case start_15 =>
            exact ⟨⟨HG.out, below_drew HB.out⟩, HC.out.keep rfl rfl⟩
          case ops_15 =>
            refine ⟨?_, ?_, ?_, ?_, ?_, ?_, ?_, ?_, ?_, ?_, ?_, ?_, ?_, ?_, ?_, ?_, ?_, ?_, trivial⟩
            · -- 0: Op.move (Operand.tmp 10)
              refine Spec.tellL rfl fun L v w hC hLj hS hLd ρ hρ K hK => ?_
              have r10 : ρ (.tmp 10) = .bool true := (hρ _ (by simp [Op.operands])).trans (by kernel_rfl)
              clear hρ hS
              go_simp
              exact hK _ _ hC (trivial) rfl
            · -- 1: Op.move (Operand.tmp 57)
              refine Spec.tellL rfl fun L v w hC hLj hS hLd ρ hρ K hK => ?_
              have s0 : v 0 = .bool true := (hS 0 rfl).2
              have r57 : ρ (.tmp 57) = .bool true := ((hρ _ (by simp [Op.operands])).trans (by kernel_rfl : Spec.look _ _ _ v (.tmp 57) = v 0)).trans s0
              clear hρ hS
              go_simp
              exact hK _ _ hC (trivial) rfl
            · -- 2: Op.move (Operand.tmp 9)
              refine Spec.tellGL 1 true rfl (fun L v w hC hLj hS hLd hG ρ hρ K hK => ?_) (fun L v w hC hLj hS hG => ?_)
              · have s1 : v 1 = .bool true := (hS 1 rfl).2
                have r9 : ρ (.tmp 9) = .func (.func 13) #[] #[.pointer (some ⟨vb, 0, none⟩)] := (hρ _ (by simp [Op.operands])).trans (by kernel_rfl)
                clear hρ hS
                go_simp
                exact hK _ _ hC (trivial) rfl
              · have s1 : v 1 = .bool true := (hS 1 rfl).2
                exact absurd s1 hG
            · -- 3: Op.load 24 (Operand.tmp 7)
              refine Spec.tellGL 1 true rfl (fun L v w hC hLj hS hLd hG ρ hρ K hK => ?_) (fun L v w hC hLj hS hG => ?_)
              · have s1 : v 1 = .bool true := (hS 1 rfl).2
                have r7 : ρ (.tmp 7) = .pointer (some ⟨gb, 0, none⟩) := (hρ _ (by simp [Op.operands])).trans (by kernel_rfl)
                clear hρ hS
                have g0 := (blk_cell hC.1.1 0).trans rfl
                have g1 := (blk_cell hC.1.1 1).trans rfl
                have g2 := (blk_cell hC.1.1 2).trans rfl
                go_simp
                exact hK _ _ hC (trivial) rfl
              · have s1 : v 1 = .bool true := (hS 1 rfl).2
                exact absurd s1 hG
            · -- 4: Op.move (Operand.tmp 12)
              refine Spec.tellGL 1 true rfl (fun L v w hC hLj hS hLd hG ρ hρ K hK => ?_) (fun L v w hC hLj hS hG => ?_)
              · have s1 : v 1 = .bool true := (hS 1 rfl).2
                have r12 : ρ (.tmp 12) = .int .i64 (b : Int) := (hρ _ (by simp [Op.operands])).trans (by kernel_rfl)
                clear hρ hS
                go_simp
                exact hK _ _ hC (trivial) rfl
              · have s1 : v 1 = .bool true := (hS 1 rfl).2
                exact absurd s1 hG
            · -- 5: Op.call { callee := Callee.value (Operand.func 17), args := #[Operand.tmp 60, Operand.tmp 
              refine Spec.tellGL 1 true rfl (fun L v w hC hLj hS hLd hG ρ hρ K hK => ?_) (fun L v w hC hLj hS hG => ?_)
              · have s1 : v 1 = .bool true := (hS 1 rfl).2
                have s3 : v 3 = .agg #[.int .i64 (N : Int), .int .i64 (i : Int), .int .i64 z] := (hS 3 rfl).2
                have s4 : v 4 = .int .i64 (b : Int) := (hS 4 rfl).2
                have r60 : ρ (.tmp 60) = .agg #[.int .i64 (N : Int), .int .i64 (i : Int), .int .i64 z] := ((hρ _ (by simp [Op.operands, Call.operands])).trans (by kernel_rfl : Spec.look _ _ _ v (.tmp 60) = v 3)).trans s3
                have r61 : ρ (.tmp 61) = .int .i64 (b : Int) := ((hρ _ (by simp [Op.operands, Call.operands])).trans (by kernel_rfl : Spec.look _ _ _ v (.tmp 61) = v 4)).trans s4
                have f17 : ρ (.func 17) = .func (.func 17) #[] #[] := (hρ _ (by simp [Op.operands, Call.operands])).trans (by kernel_rfl)
                clear hρ hS
                go_simp
                exact (geometry_Geometry_Slot.calls (N : Int) (i : Int) z (b : Int) _ _ HFL.out).mono fun ee w' ⟨h1, h2⟩ => ⟨_, h1, hK _ _ ⟨⟨blk_below hC.1.1 h2, below_then hC.1.2 hC.1.2.size h2⟩, hC.2.keep (h2.block vb hC.2.lt.1) (h2.block cb hC.2.lt.2)⟩ trivial rfl⟩
              · have s1 : v 1 = .bool true := (hS 1 rfl).2
                have s3 : v 3 = .agg #[.int .i64 (N : Int), .int .i64 (i : Int), .int .i64 z] := (hS 3 rfl).2
                have s4 : v 4 = .int .i64 (b : Int) := (hS 4 rfl).2
                exact absurd s1 hG
            · -- 6: Op.call { callee := Callee.value (Operand.tmp 59), args := #[Operand.tmp 62, Operand.const
              refine Spec.tellGL 1 true rfl (fun L v w hC hLj hS hLd hG ρ hρ K hK => ?_) (fun L v w hC hLj hS hG => ?_)
              · have s1 : v 1 = .bool true := (hS 1 rfl).2
                have s2 : v 2 = .func (.func 13) #[] #[.pointer (some ⟨vb, 0, none⟩)] := (hS 2 rfl).2
                have s5 : v 5 = .int .i64 (p : Int) := (hS 5 rfl).2
                have r59 : ρ (.tmp 59) = .func (.func 13) #[] #[.pointer (some ⟨vb, 0, none⟩)] := ((hρ _ (by simp [Op.operands, Call.operands])).trans (by kernel_rfl : Spec.look _ _ _ v (.tmp 59) = v 2)).trans s2
                have r62 : ρ (.tmp 62) = .int .i64 (p : Int) := ((hρ _ (by simp [Op.operands, Call.operands])).trans (by kernel_rfl : Spec.look _ _ _ v (.tmp 62) = v 5)).trans s5
                have c0 : ρ (.const (Value.int IntKind.i64 1)) = (Value.int IntKind.i64 1) := (hρ _ (by simp [Op.operands, Call.operands])).trans (by kernel_rfl)
                clear hρ hS
                have l15 := hLd 15 (by decide) (by decide)
                have hC2 := hC.2
                rw [l15, hLj] at hC2
                go_simp
                exact (mark_calls w0.heap.size w0 w vb cb n (cov sl bl bm sl b q 0) p 1 hC2 (by have hp := HP.out; have hE := HE.out; have h1 := hE.h3; have h2 := hE.h5; have h3 := hE.esl; have h4 := hE.en; omega) (by have := HE.out.n1; omega) (fun i _ => cov_range _ _ _ _ _ _ _ i) (by omega) hC.1.2 HNE.out.2.2).mono fun ee w' ⟨h1, h2, h3, h4⟩ => ⟨_, h1, hK _ _ ⟨⟨(h4 gb (blk_lt hC.1.1) HNE.out.1).trans hC.1.1, h3⟩, by show Cnt _ _ _ _ (stage _ _ _ true (L 15)); rw [l15]; exact h2.congr (fun i _ => HC1.out i)⟩ trivial rfl⟩
              · have s1 : v 1 = .bool true := (hS 1 rfl).2
                have s2 : v 2 = .func (.func 13) #[] #[.pointer (some ⟨vb, 0, none⟩)] := (hS 2 rfl).2
                have s5 : v 5 = .int .i64 (p : Int) := (hS 5 rfl).2
                exact absurd s1 hG
            · -- 7: Op.pick (Operand.tmp 58) (Operand.tmp 63) (Operand.const (Value.bool false))
              refine Spec.tellL rfl fun L v w hC hLj hS hLd ρ hρ K hK => ?_
              have s1 : v 1 = .bool true := (hS 1 rfl).2
              have s6 : v 6 = .bool true := (hS 6 rfl).2
              have r58 : ρ (.tmp 58) = .bool true := ((hρ _ (by simp [Op.operands])).trans (by kernel_rfl : Spec.look _ _ _ v (.tmp 58) = v 1)).trans s1
              have r63 : ρ (.tmp 63) = .bool true := ((hρ _ (by simp [Op.operands])).trans (by kernel_rfl : Spec.look _ _ _ v (.tmp 63) = v 6)).trans s6
              have c0 : ρ (.const (Value.bool false)) = (Value.bool false) := (hρ _ (by simp [Op.operands])).trans (by kernel_rfl)
              clear hρ hS
              go_simp
              exact hK _ _ hC (trivial) rfl
            · -- 8: Op.move (Operand.tmp 64)
              refine Spec.tellL rfl fun L v w hC hLj hS hLd ρ hρ K hK => ?_
              have s7 : v 7 = .bool true := (hS 7 rfl).2
              have r64 : ρ (.tmp 64) = .bool true := ((hρ _ (by simp [Op.operands])).trans (by kernel_rfl : Spec.look _ _ _ v (.tmp 64) = v 7)).trans s7
              clear hρ hS
              go_simp
              exact hK _ _ hC (trivial) rfl
            · -- 9: Op.move (Operand.tmp 9)
              refine Spec.tellGL 8 true rfl (fun L v w hC hLj hS hLd hG ρ hρ K hK => ?_) (fun L v w hC hLj hS hG => ?_)
              · have s8 : v 8 = .bool true := (hS 8 rfl).2
                have r9 : ρ (.tmp 9) = .func (.func 13) #[] #[.pointer (some ⟨vb, 0, none⟩)] := (hρ _ (by simp [Op.operands])).trans (by kernel_rfl)
                clear hρ hS
                go_simp
                exact hK _ _ hC (trivial) rfl
              · have s8 : v 8 = .bool true := (hS 8 rfl).2
                exact absurd s8 hG
            · -- 10: Op.load 24 (Operand.tmp 7)
              refine Spec.tellGL 8 true rfl (fun L v w hC hLj hS hLd hG ρ hρ K hK => ?_) (fun L v w hC hLj hS hG => ?_)
              · have s8 : v 8 = .bool true := (hS 8 rfl).2
                have r7 : ρ (.tmp 7) = .pointer (some ⟨gb, 0, none⟩) := (hρ _ (by simp [Op.operands])).trans (by kernel_rfl)
                clear hρ hS
                have g0 := (blk_cell hC.1.1 0).trans rfl
                have g1 := (blk_cell hC.1.1 1).trans rfl
                have g2 := (blk_cell hC.1.1 2).trans rfl
                go_simp
                exact hK _ _ hC (trivial) rfl
              · have s8 : v 8 = .bool true := (hS 8 rfl).2
                exact absurd s8 hG
            · -- 11: Op.move (Operand.tmp 12)
              refine Spec.tellGL 8 true rfl (fun L v w hC hLj hS hLd hG ρ hρ K hK => ?_) (fun L v w hC hLj hS hG => ?_)
              · have s8 : v 8 = .bool true := (hS 8 rfl).2
                have r12 : ρ (.tmp 12) = .int .i64 (b : Int) := (hρ _ (by simp [Op.operands])).trans (by kernel_rfl)
                clear hρ hS
                go_simp
                exact hK _ _ hC (trivial) rfl
              · have s8 : v 8 = .bool true := (hS 8 rfl).2
                exact absurd s8 hG
            · -- 12: Op.call { callee := Callee.value (Operand.func 18), args := #[Operand.tmp 67, Operand.tmp 
              refine Spec.tellGL 8 true rfl (fun L v w hC hLj hS hLd hG ρ hρ K hK => ?_) (fun L v w hC hLj hS hG => ?_)
              · have s8 : v 8 = .bool true := (hS 8 rfl).2
                have s10 : v 10 = .agg #[.int .i64 (N : Int), .int .i64 (i : Int), .int .i64 z] := (hS 10 rfl).2
                have s11 : v 11 = .int .i64 (b : Int) := (hS 11 rfl).2
                have r67 : ρ (.tmp 67) = .agg #[.int .i64 (N : Int), .int .i64 (i : Int), .int .i64 z] := ((hρ _ (by simp [Op.operands, Call.operands])).trans (by kernel_rfl : Spec.look _ _ _ v (.tmp 67) = v 10)).trans s10
                have r68 : ρ (.tmp 68) = .int .i64 (b : Int) := ((hρ _ (by simp [Op.operands, Call.operands])).trans (by kernel_rfl : Spec.look _ _ _ v (.tmp 68) = v 11)).trans s11
                have f18 : ρ (.func 18) = .func (.func 18) #[] #[] := (hρ _ (by simp [Op.operands, Call.operands])).trans (by kernel_rfl)
                clear hρ hS
                go_simp
                exact (geometry_Geometry_Block.calls (N : Int) (i : Int) z (b : Int) _ _ HFK.out).mono fun ee w' ⟨h1, h2⟩ => ⟨_, h1, hK _ _ ⟨⟨blk_below hC.1.1 h2, below_then hC.1.2 hC.1.2.size h2⟩, hC.2.keep (h2.block vb hC.2.lt.1) (h2.block cb hC.2.lt.2)⟩ trivial rfl⟩
              · have s8 : v 8 = .bool true := (hS 8 rfl).2
                have s10 : v 10 = .agg #[.int .i64 (N : Int), .int .i64 (i : Int), .int .i64 z] := (hS 10 rfl).2
                have s11 : v 11 = .int .i64 (b : Int) := (hS 11 rfl).2
                exact absurd s8 hG
            · -- 13: Op.load 24 (Operand.tmp 7)
              refine Spec.tellGL 8 true rfl (fun L v w hC hLj hS hLd hG ρ hρ K hK => ?_) (fun L v w hC hLj hS hG => ?_)
              · have s8 : v 8 = .bool true := (hS 8 rfl).2
                have r7 : ρ (.tmp 7) = .pointer (some ⟨gb, 0, none⟩) := (hρ _ (by simp [Op.operands])).trans (by kernel_rfl)
                clear hρ hS
                have g0 := (blk_cell hC.1.1 0).trans rfl
                have g1 := (blk_cell hC.1.1 1).trans rfl
                have g2 := (blk_cell hC.1.1 2).trans rfl
                go_simp
                exact hK _ _ hC (trivial) rfl
              · have s8 : v 8 = .bool true := (hS 8 rfl).2
                exact absurd s8 hG
            · -- 14: Op.call { callee := Callee.value (Operand.func 19), args := #[Operand.tmp 70], argTypes :=
              refine Spec.tellGL 8 true rfl (fun L v w hC hLj hS hLd hG ρ hρ K hK => ?_) (fun L v w hC hLj hS hG => ?_)
              · have s8 : v 8 = .bool true := (hS 8 rfl).2
                have s13 : v 13 = .agg #[.int .i64 (N : Int), .int .i64 (i : Int), .int .i64 z] := (hS 13 rfl).2
                have r70 : ρ (.tmp 70) = .agg #[.int .i64 (N : Int), .int .i64 (i : Int), .int .i64 z] := ((hρ _ (by simp [Op.operands, Call.operands])).trans (by kernel_rfl : Spec.look _ _ _ v (.tmp 70) = v 13)).trans s13
                have f19 : ρ (.func 19) = .func (.func 19) #[] #[] := (hρ _ (by simp [Op.operands, Call.operands])).trans (by kernel_rfl)
                clear hρ hS
                go_simp
                exact (geometry_Geometry_Each.calls (N : Int) (i : Int) z _ _ HE.out.fE).mono fun ee w' ⟨h1, h2⟩ => ⟨_, h1, hK _ _ ⟨⟨blk_below hC.1.1 h2, below_then hC.1.2 hC.1.2.size h2⟩, hC.2.keep (h2.block vb hC.2.lt.1) (h2.block cb hC.2.lt.2)⟩ trivial rfl⟩
              · have s8 : v 8 = .bool true := (hS 8 rfl).2
                have s13 : v 13 = .agg #[.int .i64 (N : Int), .int .i64 (i : Int), .int .i64 z] := (hS 13 rfl).2
                exact absurd s8 hG
            · -- 15: Op.call { callee := Callee.value (Operand.tmp 66), args := #[Operand.tmp 69, Operand.tmp 7
              refine Spec.tellGL 8 true rfl (fun L v w hC hLj hS hLd hG ρ hρ K hK => ?_) (fun L v w hC hLj hS hG => ?_)
              · have s8 : v 8 = .bool true := (hS 8 rfl).2
                have s9 : v 9 = .func (.func 13) #[] #[.pointer (some ⟨vb, 0, none⟩)] := (hS 9 rfl).2
                have s12 : v 12 = .int .i64 (r : Int) := (hS 12 rfl).2
                have s14 : v 14 = .int .i64 (e : Int) := (hS 14 rfl).2
                have r66 : ρ (.tmp 66) = .func (.func 13) #[] #[.pointer (some ⟨vb, 0, none⟩)] := ((hρ _ (by simp [Op.operands, Call.operands])).trans (by kernel_rfl : Spec.look _ _ _ v (.tmp 66) = v 9)).trans s9
                have r69 : ρ (.tmp 69) = .int .i64 (r : Int) := ((hρ _ (by simp [Op.operands, Call.operands])).trans (by kernel_rfl : Spec.look _ _ _ v (.tmp 69) = v 12)).trans s12
                have r71 : ρ (.tmp 71) = .int .i64 (e : Int) := ((hρ _ (by simp [Op.operands, Call.operands])).trans (by kernel_rfl : Spec.look _ _ _ v (.tmp 71) = v 14)).trans s14
                have l6 : L 6 = true := (hS 6 rfl).1
                clear hρ hS
                have hC2 := hC.2
                rw [l6, hLj] at hC2
                go_simp
                exact (mark_calls w0.heap.size w0 w vb cb n (cov sl bl bm sl (b + 1) q 0) r e hC2 (by have hp := HP.out; have hE := HE.out; have h1 := hE.h3; have h2 := hE.h5; have h3 := hE.esl; have h4 := hE.en; omega) (by have := HE.out.n1; omega) (fun i _ => cov_range _ _ _ _ _ _ _ i) (by have hp := HP.out; have := HE.out.m2; omega) hC.1.2 HNE.out.2.2).mono fun ee w' ⟨h1, h2, h3, h4⟩ => ⟨_, h1, hK _ _ ⟨⟨(h4 gb (blk_lt hC.1.1) HNE.out.1).trans hC.1.1, h3⟩, h2.congr (fun i _ => HC2.out i)⟩ trivial rfl⟩
              · have s8 : v 8 = .bool true := (hS 8 rfl).2
                have s9 : v 9 = .func (.func 13) #[] #[.pointer (some ⟨vb, 0, none⟩)] := (hS 9 rfl).2
                have s12 : v 12 = .int .i64 (r : Int) := (hS 12 rfl).2
                have s14 : v 14 = .int .i64 (e : Int) := (hS 14 rfl).2
                exact absurd s8 hG
            · -- 16: Op.pick (Operand.tmp 65) (Operand.tmp 72) (Operand.const (Value.bool false))
              refine Spec.tellL rfl fun L v w hC hLj hS hLd ρ hρ K hK => ?_
              have s8 : v 8 = .bool true := (hS 8 rfl).2
              have s15 : v 15 = .bool true := (hS 15 rfl).2
              have r65 : ρ (.tmp 65) = .bool true := ((hρ _ (by simp [Op.operands])).trans (by kernel_rfl : Spec.look _ _ _ v (.tmp 65) = v 8)).trans s8
              have r72 : ρ (.tmp 72) = .bool true := ((hρ _ (by simp [Op.operands])).trans (by kernel_rfl : Spec.look _ _ _ v (.tmp 72) = v 15)).trans s15
              have c0 : ρ (.const (Value.bool false)) = (Value.bool false) := (hρ _ (by simp [Op.operands])).trans (by kernel_rfl)
              clear hρ hS
              go_simp
              exact hK _ _ hC (trivial) rfl
            · -- 17: Op.assign (Operand.tmp 73)
              refine Spec.tellL rfl fun L v w hC hLj hS hLd ρ hρ K hK => ?_
              have s16 : v 16 = .bool true := (hS 16 rfl).2
              have r73 : ρ (.tmp 73) = .bool true := ((hρ _ (by simp [Op.operands])).trans (by kernel_rfl : Spec.look _ _ _ v (.tmp 73) = v 16)).trans s16
              clear hρ hS
              go_simp
              exact hK _ _ hC (trivial) rfl
          case end_15 =>
            intro v w' hC hS
            have s17 : v 17 = .bool true := hS 17 (by decide)
            clear hS
            simp only [Spec.putAll, Act.put, List.setIfInBounds_toArray, List.set_cons_zero, List.set_cons_succ]
            generalize v 0 = x0
            generalize v 1 = x1
            generalize v 2 = x2
            generalize v 3 = x3
            generalize v 4 = x4
            generalize v 5 = x5
            generalize v 6 = x6
            generalize v 7 = x7
            generalize v 8 = x8
            generalize v 9 = x9
            generalize v 10 = x10
            generalize v 11 = x11
            generalize v 12 = x12
            generalize v 13 = x13
            generalize v 14 = x14
            generalize v 15 = x15
            generalize v 16 = x16
            rw [s17]; clear s17
            have hp := HP.out
            go_wp2_with fail
            go_roundw
            case rel => exact ⟨b + 1, by omega, rfl, by go_num, ⟨hC.1.1⟩, ⟨by rw [hp.2.2.2.2.2.1]; exact hC.2⟩, ⟨hC.1.2⟩⟩
            case measure => simp [intOf]; omega
        · obtain rfl : b = N := by omega
          have d1 : decide ((b : Int) < (b : Int)) = false := decide_eq_false (by omega)
          clear hlt hb
          go_wp2_with fail
          refine (geometry_Geometry_Bitmap.calls (b : Int) (i : Int) z _ _ _ HE.out.fB).mono ?_
          rintro ee w9 ⟨rfl, hb⟩
          have HG9 := Aside0.mk (blk_below HG.out hb)
          have HC9 := Aside0.mk (HC.out.keep (hb.block vb HC.out.lt.1) (hb.block cb HC.out.lt.2))
          have HB9 := Aside0.mk (below_then HB.out HB.out.size hb)
          clear HG HC HB g0 g1 g2 hb
          have HG := HG9
          have HC := HC9
          have HB := HB9
          clear HG9 HC9 HB9
          have g0 := (blk_cell HG.out 0).trans rfl
          have g1 := (blk_cell HG.out 1).trans rfl
          have g2 := (blk_cell HG.out 2).trans rfl
          have e8 : Int.tmod (bm : Int) 8 = 0 := by rw [Int.tmod_eq_emod_of_nonneg (by omega)]; have := HE.out.m1; omega
          have e8' : (bm : Int) % 8 = 0 := by have := HE.out.m1; omega
          go_wp2_with fail
          refine (mark_calls w0.heap.size w0 _ vb cb n _ bm bw HC.out (by have hE := HE.out; have h1 := hE.h3; have h2 := hE.h5; have h3 := hE.esl; have h4 := hE.en; omega) (by have := HE.out.n1; omega) (fun i _ => cov_range _ _ _ _ _ _ _ i) (by have := HE.out.m1; omega) HB.out HNE.out.2.2).mono ?_
          rintro ee w9 ⟨rfl, hcc, hbb, hkk⟩
          have HG9 := Aside0.mk ((hkk gb (blk_lt HG.out) HNE.out.1).trans HG.out)
          have HC9 := Aside0.mk (hcc.congr (fun i _ => cov_T sl bl bm b bw sl b (b * e) 0 (Nat.le_refl _) (Nat.le_refl _) HE.out.h3 (Nat.zero_le _) HE.out.h5 rfl i))
          have HB9 := Aside0.mk hbb
          clear HG HC HB g0 g1 g2 hcc hbb hkk
          have HG := HG9
          have HC := HC9
          have HB := HB9
          clear HG9 HC9 HB9
          have g0 := (blk_cell HG.out 0).trans rfl
          have g1 := (blk_cell HG.out 1).trans rfl
          have g2 := (blk_cell HG.out 2).trans rfl
          have v0 := HC.out.v0
          go_wp2_with fail
          clear g0 g1 g2 v0 e8 e8'
          go_loopw [15, 96] (fun v15 v96 wr => ∃ k : Nat, k ≤ n ∧ v15 = .int .i64 ((gaps sl bl bm b bw k : Nat) : Int) ∧ v96 = .int .i64 k ∧ Aside0 (Cnt wr vb cb n (cov sl bl bm sl b (b * e) bw)) ∧ Aside0 (Below w0.heap.size w0 wr)) (fun _ v96 _ => n - (intOf v96).toNat)
          case atStart => exact ⟨0, Nat.zero_le _, by unfold gaps; simp, rfl, HC, HB⟩
          case round =>
            clear HG HC HB
            obtain ⟨k, hk, rfl, rfl, HC, HB⟩ := hrel
            have hgl : gaps sl bl bm b bw k ≤ 14 := by unfold gaps; have hE := HE.out; have h1 := hE.h3; have h2 := hE.h5; have h3 := hE.g1; have h4 := hE.g2; omega
            by_cases hlt : k < n
            · have hcx := HC.out.at_ k hlt
              have dn1 : decide (k < n) = true := decide_eq_true hlt
              have dp1 : (k < n) = True := eq_true hlt
              have d1 : decide ((k : Int) < (n : Int)) = true := decide_eq_true (by omega)
              have hst := gaps_step sl bl bm b bw (b * e) k HE.out.h3 HE.out.h5 (by have := HE.out.en; omega)
              rcases hst with ⟨c1, c2⟩ | ⟨c1, c2⟩
              · rw [c1] at hcx
                have HS2 := Aside0.mk c2
                generalize gaps sl bl bm b bw k = gk at hgl HS2 ⊢
                clear c1 c2
                go_wp2_with fail
                go_roundw
                case rel => exact ⟨k + 1, by omega, by rw [HS2.out], by go_num, HC, HB⟩
                case measure => simp [intOf]; omega
              · rw [c1] at hcx
                have HS2 := Aside0.mk c2
                generalize gaps sl bl bm b bw k = gk at hgl HS2 ⊢
                clear c1 c2
                go_wp2_with fail
                go_roundw
                case rel => exact ⟨k + 1, by omega, by rw [HS2.out]; go_num, by go_num, HC, HB⟩
                case measure => simp [intOf]; omega
            · obtain rfl : k = n := by omega
              have d1 : decide ((k : Int) < (k : Int)) = false := decide_eq_false (by omega)
              clear hlt
              generalize gaps sl bl bm b bw k = gk at hgl ⊢
              have d2 : decide ((gk : Int) < 16) = true := decide_eq_true (by omega)
              go_wp2_with fail
              go_ret
              exact ⟨rfl, HB.out⟩
end Go.Proofs.Ytcankokamleloaa.Ga
