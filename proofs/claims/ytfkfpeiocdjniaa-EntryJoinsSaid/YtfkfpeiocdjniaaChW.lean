/- slices.Chunk: what it hands back, and its closure. Conditions: as each lemma says. -/
import Derived.RangeFuncNested
import Derived.RangeFuncBox
import Derived.RangeFuncBound
import Derived.RangeFuncCalls
import Derived.RangeFuncLeaves
import Derived.Shelf.Abstract
import Derived.Shelf.RegionOpen
import Derived.WalkKit
import Derived.OwnWalkIn
import Derived.TacticsInMore
import Derived.LoopNIn
import Derived.LoopIn
import Derived.Test.YtfkfpeiocdjniaaPAllx4
import Derived.Test.YtfkfpeiocdjniaaMath
namespace Go.Proofs.Ytfkfpeiocdjniaa.PAll
open Go.RowKit Go.Shelf Go.Proofs.YtfkfpeiocdjniaaW.PrintWords Go.Proofs.YtfkfpeiocdjniaaW.PrintLast Go.Proofs.YtfkfpeiocdjniaaW.PrintMore
attribute [local go_sem] Oper.semAt_some
attribute [local go_sem] max2_int min2_int max_two min_two
set_option linter.unusedVariables false
set_option linter.unusedSimpArgs false
abbrev Ck (m : Nat) := { j : Nat // j < m }
/-- The first k chunks. -/
def upC (m : Nat) : Nat → List (Ck m)
  | 0 => []
  | k + 1 => upC m k ++ (if h : k < m then [⟨k, h⟩] else [])
theorem upC_succ (m k : Nat) (h : k < m) : upC m (k + 1) = upC m k ++ [⟨k, h⟩] := by simp [upC, h]
theorem upC_length (m : Nat) : ∀ k, k ≤ m → (upC m k).length = k
  | 0, _ => rfl
  | k + 1, h => by rw [upC_succ m k (by omega), List.length_append, upC_length m k (by omega)]; rfl
/-- The chunk j. -/
def ckV (ad : Addr) (j : Nat) : Value := .slice (some (ad.add (64 * j))) 64 64
theorem cut_ck (ad : Addr) (m cap j : Nat) (hj : j < m) (hm : 64 * m ≤ cap) (W : World) : (Instr.slice 22 (.slice (some ad) (64 * m) cap) (some (.int .i64 ((64 * j : Nat) : Int))) (some (.int .i64 ((64 * j + 64 : Nat) : Int))) (some (.int .i64 ((64 * j + 64 : Nat) : Int)))).run Try.prog W = .ok (ckV ad j) W := by
  obtain ⟨i, hi, _, hs, _⟩ := info_parts info5'
  have hel : Try.prog.elem 22 = 5 := by simp [Program.elem, Try.underlying22]
  have hu : Try.prog.underlying 22 = some (.slice (Try.prog.elem 22)) := by rw [hel]; exact Try.underlying22
  rw [run_slice_lhm W 22 (some ad) (64 * m) cap hu .i64 .i64 .i64 _ _ _ (by omega) (by omega) (by omega) (by omega), hel]
  simp only [Int.toNat_natCast]
  have e : ((sizeOf 5).run Try.prog W) = .ok 1 W := Try.sizeOf5 W
  rw [e]
  simp only [Result.andThen, sliced, ckV]
  rw [if_neg (by omega)]
  simp
theorem cut_rest (ad : Addr) (m cap j : Nat) (hj : j < m) (hm : 64 * m ≤ cap) (W : World) : ∃ A c, (Instr.slice 22 (.slice (some ad) (64 * m) cap) (some (.int .i64 ((64 * j : Nat) : Int))) none none).run Try.prog W = .ok (.slice A (64 * m - 64 * j) c) W := by
  obtain ⟨i, hi, _, hs, _⟩ := info_parts info5'
  have := cut_from (P := Try.prog) 22 5 .i64 Try.underlying22 hi 1 hs (some ad) (64 * m) cap ((64 * j : Nat) : Int) (by omega) (by omega) W
  rw [Int.toNat_natCast] at this
  exact ⟨_, _, this⟩
set_option maxRecDepth 100000 in
set_option maxHeartbeats 4000000 in
theorem chunk1_in (F : Fence) (n : Nat) (h32 : F.fn 32) (hro : F.round = none) (hn : 1 ≤ n) (l Bs Bn m cap : Nat) (ad : Addr) (A0 : Option Addr) (hA : 0 < m → A0 = some ad) (hm : 64 * m ≤ cap) (hm2 : m ≤ 1000000) (Kp : World → World → Prop) (hKp : ∀ A B, Kp A B → B.heap[Bs]? = A.heap[Bs]? ∧ B.heap[Bn]? = A.heap[Bn]?)
    (J Jx : List (Ck m) → World → Prop) (Bj : Nat) (hJ : AbidesFrom Bj J)
    (hY : ∀ pre x W, J pre W → pre.length < m → YieldAt F (n - 1) Try.prog l #[ckV ad x.1] W fun e W' =>
      (e = .returned (.bool true) ∧ J (pre ++ [x]) W' ∧ Kp W W') ∨ (e = .returned (.bool false) ∧ Jx (pre ++ [x]) W'))
    (W : World) (hBs : W.heap[Bs]? = some (.cells #[.slice A0 (64 * m) cap] 22 (0, 0))) (hBn : W.heap[Bn]? = some (.cells #[.int .i64 64] 3 (0, 0))) (h0 : J [] W) :
    CallsIn F n Try.prog 32 #[.func (.yield l) #[] #[], .pointer (some ⟨Bs, 0, none⟩), .pointer (some ⟨Bn, 0, none⟩)] W fun e W' => (∃ v, e = .returned v) ∧
      ((∃ ys, ys = upC m m ∧ J ys W') ∨ (∃ pre : List (Ck m), True ∧ Jx pre W')) := by
  obtain ⟨L, hL⟩ : ∃ L : Nat, L = 64 * m := ⟨_, rfl⟩
  rw [← hL] at hBs
  have HLQ := Aside0.mk hL
  clear hL
  refine callsIn_of_wp Try.func32 rfl h32 ?_ hro
  simp only [Try.ntmps32, List.size_toArray, List.length_cons, List.length_nil, Nat.reduceAdd, Nat.reduceSub, Array.replicate_succ, Array.replicate_zero, List.push_toArray, List.append_toArray, List.nil_append, List.cons_append]
  gi_wp2
  gi_loopw [4] (fun v4 wr => ∃ k o : Nat, k ≤ m ∧ o = 64 * k ∧ v4 = .int .i64 (o : Int) ∧ J (upC m k) wr ∧ wr.heap[Bs]? = some (.cells #[.slice A0 L cap] 22 (0, 0)) ∧ wr.heap[Bn]? = some (.cells #[.int .i64 64] 3 (0, 0)))
    (fun v4 _ => L - (intOf v4).toNat)
  case atStart => exact ⟨0, 0, Nat.zero_le _, rfl, rfl, h0, hBs, hBn⟩
  case round =>
    obtain ⟨k, o, hk, ho, rfl, hJs, hs, hn'⟩ := hrel
    have hL := HLQ.out
    have qs : wr.cell? ⟨Bs, 0, none⟩ = some (.slice A0 L cap) := (blk_cell hs 0).trans rfl
    have qn : wr.cell? ⟨Bn, 0, none⟩ = some (.int .i64 64) := (blk_cell hn' 0).trans rfl
    by_cases hlt : k < m
    · obtain rfl : A0 = some ad := hA (by omega)
      have d : decide ((o : Int) < (L : Int)) = true := decide_eq_true (by omega)
      have hcut := cut_ck ad m cap k hlt hm
      have hrest := cut_rest ad m cap k hlt hm
      simp only [ckV] at hcut
      rw [← hL, ← ho] at hcut hrest
      simp only [show ((o + 64 : Nat) : Int) = (o : Int) + 64 by omega] at hcut
      have hrest' : ∃ A c, ∀ W, (Instr.slice 22 (.slice (some ad) L cap) (some (.int .i64 (o : Int))) none none).run Try.prog W = .ok (.slice A (L - o) c) W := by
        obtain ⟨i, hi, _, hs, _⟩ := info_parts info5'
        have := cut_from (P := Try.prog) 22 5 .i64 Try.underlying22 hi 1 hs (some ad) L cap (o : Int) (by omega) (by omega)
        rw [Int.toNat_natCast] at this
        exact ⟨_, _, this⟩
      obtain ⟨A, c, hre⟩ := hrest'
      clear hrest
      obtain ⟨x, hx1, hx2⟩ : ∃ x : Ck m, x.1 = k ∧ upC m (k + 1) = upC m k ++ [x] := ⟨⟨k, hlt⟩, rfl, upC_succ m k hlt⟩
      obtain ⟨fn, tmps, assign, body, hy, hR⟩   := hY _ x wr.drew (hJ _ _ _ none hJs ⟨rfl, rfl, rfl, Nat.le_refl _, fun _ _ _ => rfl⟩ (fun r e => by cases e)) (by rw [upC_length m k hk]; exact hlt)
      rw [hx1] at hy
      simp only [ckV] at hy
      rw [← ho] at hy
      rw [← hx2] at hR
      have HO := Aside0.mk (And.intro ho (And.intro hk hlt))
      have hmn2 : (if ((L - o : Nat) : Int) < 64 then ((L - o : Nat) : Int) else 64) = 64 := if_neg (by omega)
      have hi64 : IntKind.i64.wrap ((o : Int) + 64) = (o : Int) + 64 := by rw [i64_w, Math.w64 (by omega) (by omega)]
      clear ho hk hlt hL hx1 hx2
      have d' : decide (o < L) = true := decide_eq_true (by have := HO.out; have := HLQ.out; omega)
      have qs' : wr.drew.cell? ⟨Bs, 0, none⟩ = some (.slice (some ad) L cap) := qs
      have qn' : wr.drew.cell? ⟨Bn, 0, none⟩ = some (.int .i64 64) := qn
      have hs' : wr.drew.heap[Bs]? = some (.cells #[.slice (some ad) L cap] 22 (0, 0)) := hs
      have hn'' : wr.drew.heap[Bn]? = some (.cells #[.int .i64 64] 3 (0, 0)) := hn'
      have HS := Aside0.mk hs'
      have HN := Aside0.mk hn''
      clear hs' hn'' hs hn' hJs
      gi_wp2
      gi_region
      all_goals (generalize wr.drew = wd at *)
      all_goals gi_wp2
      all_goals
        refine hR.mono ?_
        rintro e W3 (⟨rfl, hJ3, hk3⟩ | ⟨rfl, hJx3⟩)
        · have hs3 := (hKp _ _ hk3).1.trans HS.out
          have hn3 := (hKp _ _ hk3).2.trans HN.out
          have qn3 : W3.cell? ⟨Bn, 0, none⟩ = some (.int .i64 64) := (blk_cell hn3 0).trans rfl
          gi_wp2
          go_roundw
          case rel => exact ⟨k + 1, o + 64, HO.out.2.2, by have := HO.out.1; omega, rfl, hJ3, hs3, hn3⟩
          case measure => have := HO.out; have := HLQ.out; simp [intOf]; omega
        · gi_wp2
          refine bodyPost_ret (results_none rfl _ _ _) rfl ?_
          exact ⟨⟨_, rfl⟩, .inr ⟨_, trivial, hJx3⟩⟩
    · obtain rfl : k = m := by omega
      obtain rfl : o = L := by omega
      clear ho hL hk hlt
      gi_wp2
      go_end0
      exact ⟨⟨_, rfl⟩, .inl ⟨_, rfl, hJs⟩⟩
theorem chunk_stops (F : Fence) (n : Nat) (h32 : F.fn 32) (hro : F.round = none) (hn : 1 ≤ n) (Bs Bn m cap : Nat) (ad : Addr) (A0 : Option Addr) (hA : 0 < m → A0 = some ad) (hm : 64 * m ≤ cap) (hm2 : m ≤ 1000000) (Kp : World → World → Prop) (hKp : ∀ A B, Kp A B → B.heap[Bs]? = A.heap[Bs]? ∧ B.heap[Bn]? = A.heap[Bn]?)
    (w : World) (hBs : w.heap[Bs]? = some (.cells #[.slice A0 (64 * m) cap] 22 (0, 0))) (hBn : w.heap[Bn]? = some (.cells #[.int .i64 64] 3 (0, 0))) :
    SeqStopsK F n Try.prog 32 #[.pointer (some ⟨Bs, 0, none⟩), .pointer (some ⟨Bn, 0, none⟩)] (fun x : Ck m => #[ckV ad x.1]) Kp (fun ys => ys = upC m m) (fun _ => True) m w := fun l J Jx W hW hJ hJx hY h0 =>
  chunk1_in F n h32 hro hn l Bs Bn m cap ad A0 hA hm hm2 Kp hKp J Jx _ hJ hY W ((hW.block Bs (blk_lt hBs)).trans hBs) ((hW.block Bn (blk_lt hBn)).trans hBn) h0
set_option maxHeartbeats 1000000 in
theorem chunk_calls (A : Option Addr) (len cap : Nat) (w : World) :
    Calls Try.prog 24 #[.slice A len cap, .int .i64 64] w fun e w' => e = .returned (.func (.func 32) #[] #[.pointer (some ⟨w.heap.size, 0, none⟩), .pointer (some ⟨w.heap.size + 1, 0, none⟩)]) ∧ w' = (w.alloc (.cells #[.slice A len cap] 22)).alloc (.cells #[.int .i64 64] 3) := by
  go_enter Try.func24, Try.ntmps24
  go_wp2
  go_ret
  exact ⟨by simp, rfl⟩
end Go.Proofs.Ytfkfpeiocdjniaa.PAll
