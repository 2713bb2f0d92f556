/- cantlelaw08.refs: the walk. Conditions: as each lemma says. -/
import Derived.Test.YtfkfpeiocdjniaaTwW
namespace Go.Proofs.Ytfkfpeiocdjniaa.PAll
open Go.RowKit Go.Proofs.YtfkfpeiocdjniaaW.PrintWords Go.Proofs.YtfkfpeiocdjniaaW.PrintLast Go.Proofs.YtfkfpeiocdjniaaW.PrintMore
set_option linter.unusedVariables false
set_option linter.unusedSimpArgs false
def toRef (x : S33) : S32 := ⟨x.f0, x.f1⟩
set_option maxRecDepth 100000 in
set_option maxHeartbeats 8000000 in
theorem refs_calls (A : Option Addr) (c : Nat) (l : List S33) (w0 : World) (hC : Kd.C k33 w0 A l.length l) (hl : l.length ≤ 1000000) :
    Calls Try.prog 14 #[.slice A l.length c] w0 fun e w' => ∃ v0, e = .returned v0 ∧ Kd.R k32 32 w' w0.heap.size (fun _ => True) v0 (l.map toRef) ∧ Below w0.heap.size w0 w' := by
  have HC := Aside0.mk hC
  have HL := Aside0.mk hl
  clear hC hl
  go_enter Try.func14, Try.ntmps14
  go_wp2_with fail
  go_loopw [3, 8] (fun v3 v8 wr => ∃ i : Nat, i ≤ l.length ∧ v8 = .int .i64 (i : Int) ∧ Aside0 (Kd.R k32 32 wr w0.heap.size (fun _ => True) v3 ((l.take i).map toRef)) ∧ Aside0 (Below w0.heap.size w0 wr)) (fun _ v8 _ => l.length - (intOf v8).toNat)
  case atStart => exact ⟨0, Nat.zero_le _, rfl, ⟨Kd.R_nil _ _ _ _ _⟩, ⟨Below.refl _ _⟩⟩
  case round =>
    obtain ⟨i, hi, rfl, HO, HBi⟩ := hrel
    by_cases hlt : i < l.length
    · have di : decide ((i : Int) < (l.length : Int)) = true := decide_eq_true (by omega)
      obtain ⟨ad, eA, hx0, hx1⟩ := at_T33 (Kd.C_below HC.out HBi.out) (i : Int) (by omega) (by omega)
      subst eA
      rw [rd33 l i hlt] at hx0 hx1
      have HT := Aside0.mk (show (l.take i).map toRef ++ [toRef l[i]] = (l.take (i + 1)).map toRef by rw [List.take_succ_eq_append_getElem hlt, List.map_append]; rfl)
      have HLE := Aside0.mk (show ((l.take i).map toRef).length ≤ 1000000 by rw [List.length_map, List.length_take]; have := HL.out; omega)
      have ht : toRef l[i] = ⟨(l[i]).f0, (l[i]).f1⟩ := rfl
      rw [ht] at HT
      clear ht
      generalize (l[i]).f0 = s at hx0 HT
      generalize (l[i]).f1 = n at hx1 HT
      generalize (l.take i).map toRef = xs at HT HO HLE
      rw [Int.toNat_natCast] at hx0 hx1
      have hi1 : IntKind.i64.wrap ((i : Int) + 1) = ((i + 1 : Nat) : Int) := by rw [i64_w]; exact Math.w64 (by have := HL.out; omega) (by have := HL.out; omega)
      go_wp2_with (first | ((with_reducible refine gate_builtin (b := .append) (xs := #[.tmp 12, .tmp 14]) rfl ?_); at_builtin; refine Kd.R_append k32 (w0 := w0) w0.heap.size rfl (.tmp 12) (.tmp 14) 28 32 (.agg #[(.string ⟨#[]⟩), (.int .i64 0)]) 24 rfl Try.underlying28 info32 rfl (by decide) (by omega) u3 xs (⟨s, n⟩ : S32) [.string s, .int .i64 n] (fun _ => True) (fun _ => False) rfl (by first | (go_simp; done) | (go_simp; rfl)) ?aP (fun _ hk => hk.elim) ?aF ?aO ?aB ?aS ?aL ?_; (case aP => exact k32_mkM _ _ _ (⟨s, n⟩ : S32)); (case aB => exact (by repeat (first | (with_reducible first | exact HBi.out | apply below_alloc | apply pw_below_drewN | apply below_drew1) | exact HBi.out))); (case aF => exact (fun _ _ => trivial)); (case aO => exact (by (with_reducible repeat (first | apply Kd.R_alloc | apply Kd.R_drewN | apply Kd.R_drew)); exact HO.out)); (case aS => exact (below_size (by repeat (first | (with_reducible first | exact HBi.out | apply below_alloc | apply pw_below_drewN | apply below_drew1) | exact HBi.out)))); (case aL => have := HLE.out; omega); intro v146 w12 ho hb hg hat; rw [HT.out] at ho; have HB3 := Aside0.mk hb; have HO3 := Aside0.mk ho; clear ho hb hg hat))
      go_roundw
      case rel => exact ⟨i + 1, by omega, rfl, HO3, HB3⟩
      case measure => simp [intOf]; omega
    · obtain rfl : i = l.length := by omega
      have di : decide ((l.length : Int) < (l.length : Int)) = false := decide_eq_false (by omega)
      rw [List.take_length] at HO
      go_wp2_with fail
      go_ret
      exact ⟨_, rfl, HO.out, HBi.out⟩
end Go.Proofs.Ytfkfpeiocdjniaa.PAll
