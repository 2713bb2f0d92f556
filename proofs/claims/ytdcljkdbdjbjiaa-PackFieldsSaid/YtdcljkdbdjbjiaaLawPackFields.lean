/- PackFields: for every list of fields the law returns true; the fields read as they did. Conditions: none. -/
import Derived.Test.YtdcljkdbdjbjiaaRows
import Derived.Test.YtdcljkdbdjbjiaaPPackFieldsx3
import Derived.Test.YtdcljkdbdjbjiaaPurePackFields
import Derived.Test.YtdcljkdbdjbjiaaOpen
import Derived.WalkKit
import Derived.ProofKit
import Derived.OpenShut
import Derived.ShutString
import Derived.ChangeOld
import Derived.Below
import Derived.SizedLaws
namespace Go.Proofs.Ytdcljkdbdjbjiaa.packFields
open Go.ChangeShapes Go.WideShapes Go.ChangeAt Go.RowKit Go.Proofs.YtdcljkdbdjbjiaaW.PrintWords Go.Proofs.YtdcljkdbdjbjiaaW.PrintLast Go.Proofs.YtdcljkdbdjbjiaaW.PrintMore
set_option linter.unusedVariables false
theorem own : ownKnob Try.prog.godebug = none := by kernel_rfl
theorem laidOut : laidOutB Try.prog = true := by kernel_rfl
instance : Inhabited PPackFields.S28 := ⟨PPackFields.z28⟩
set_option maxRecDepth 100000 in
theorem lifted (os : Os) (started : os.Started) (H : Type) (enc : TypeId × Value → H) :
    ReturnsInHanded {} Try.checked os 3 .any (Rows.packFieldsSpec.pre6 enc Try.prog Try.f3 Rows.packFieldsRow.domain false) (Rows.packFieldsSpec.post enc Try.prog Try.f3 false true false false) := by
  refine returnsInHanded_of_change_sized (C := Try.checked) own started (by kernel_rfl) Try.func3
    (ChangeSpec.witness6 (enc := enc) (C := Try.checked) false ⟨#[], #[.slice none 0 0], []⟩ 8 (by kernel_rfl) (by kernel_rfl) (by kernel_rfl) (by kernel_rfl)) ?_
  intro W base args ds gs before hval0 hW hcnd hsz0 _
  have hval : ∀ (j : Nat) t v, Try.f3.params[j]? = some t → args[j]? = some v → Value.okWide Try.prog W .any base t v := hval0
  have hW' := hW
  obtain ⟨p, q, hA0, hV, rfl, hfz, hnd⟩ := hW
  have hA : DataW.TrodAll enc Try.prog W 0 (fun _ => true) true Try.f3.params.toList args.toList ds p := hA0
  rw [Try.params3] at hA hval
  obtain ⟨v0, vs0, d0, ds0, p0, q0, hargs, rfl, rfl, h0, r0⟩ := trodAll_cons hA
  obtain ⟨rfl, rfl, rfl⟩ := trodAll_nil r0
  obtain rfl : args = #[v0] := by cases args; simp_all
  obtain ⟨rfl, rfl⟩ := trodVars_none hV
  obtain ⟨a0, len0, cap0, rfl⟩ := okWide_slice Try.underlying22 (hval 0 22 v0 rfl rfl)
  have k0 := h0
  have lt0 : ∀ x ∈ p0, x.block < W.heap.size := by obtain ⟨m, hm⟩ := k0; exact DataW.trod_lt m _ _ _ hm
  obtain ⟨l, hl, hle, hC, hok⟩ := Open.open_row PPackFields.k28 Pure.fit Try.underlying22 (by kernel_rfl) (fun n cs y hcs hy => by
    obtain ⟨y0, y1, m, rfl, _, g0, g1⟩ := trod_struct2 Try.underlying28 hy
    have hcs2 : cs.length = 2 := hcs
    match cs, hcs2 with
    | [c0, c1], _ =>
      have g0' : DataW.trod enc Try.prog W 0 (fun _ => true) true m 3 [c0] = some y0 := g0
      have g1' : DataW.trod enc Try.prog W 0 (fun _ => true) true m 26 [c1] = some y1 := g1
      obtain ⟨x0, e0, _, w0⟩ := DataW.trod_int Try.underlying3 g0'
      obtain ⟨x1, e1, _, w1⟩ := DataW.trod_int Try.underlying26 g1'
      simp at e0 e1
      subst e0 e1
      exact ⟨⟨x0, x1⟩, PPackFields.k28_mk W ⟨x0, x1⟩, Math.wf_i64 w0, Math.wf_u64 w1⟩) h0
  subst hl
  clear hA0 hval0 hsz0
  obtain ⟨k, hk⟩ := Pure.PackFields l hok
  refine (PPackFields.cantlelaw03_PackFields.calls k a0 cap0 l true W hC hle hk).mono fun e W' ⟨he, bel⟩ => ?_
  subst he
  exact ⟨_, rfl, _, _, _, [], _, [], hW', trodAll_mk1 (shut_bool Try.underlying4 _), (trodAll_cons_mk (Below.trod laidOut (by kernel_rfl) (of_decide_eq_true (by kernel_rfl)) k0 bel lt0) trodAll_mk0), rfl, bel.frame _, fun h => by cases h⟩
theorem over : Rows.packFieldsRow.holds Try.pinned (OpenSpec.ofChange Rows.packFieldsSpec) :=
  OpenClaim.holds_of_wide 3 Try.f3 rfl rfl rfl rfl rfl rfl rfl ⟨rfl, rfl, rfl, rfl, rfl⟩ rfl rfl rfl rfl rfl (by kernel_rfl) Try.func3 (by kernel_rfl)
    (of_decide_eq_true (by kernel_rfl)) (by unfold Func.isWrapper; first | (rw [if_pos (by decide +kernel)]; kernel_rfl) | (rw [if_neg (by decide +kernel)]; exact ⟨rfl, rfl⟩))
    (fun os started H enc _ => lifted os started H enc)
theorem proved : Rows.PackFieldsSaid := over
#print axioms proved
end Go.Proofs.Ytdcljkdbdjbjiaa.packFields
namespace Go.Proofs.Ytdcljkdbdjbjiaa
/-- The row, under a short name, for the claim. -/
theorem packFields_holds : Rows.PackFieldsSaid := packFields.proved
end Go.Proofs.Ytdcljkdbdjbjiaa
