/- BitmapPlays: an act, read out of the argument; all lists of acts. Conditions: as each lemma says. -/
import Derived.Test.YtcknljndogbbhaaWalkBitmapPlays
import Derived.Test.YtcknljndogbbhaaOpen
import Derived.ChangeSame
namespace Go.Proofs.Ytcknljndogbbhaa.Bm
open Go.RowKit Go.Proofs.Ytcknljndogbbhaa Go.Proofs.Ytcknljndogbbhaa.Rn Go.Proofs.Ytcknljndogbbhaa.PAll Go.Proofs.YtcknljndogbbhaaW.PrintWords Go.Proofs.YtcknljndogbbhaaW.PrintLast Go.Proofs.YtcknljndogbbhaaW.PrintMore
set_option linter.unusedVariables false
def ActOk (x : S48) : Prop := (Lit.int .u8 x.f0).wf = true ∧ (Lit.int .i64 x.f1).wf = true ∧ (Lit.int .i64 x.f2).wf = true ∧ ∀ y ∈ x.f3, (Lit.int .i64 y).wf = true
theorem plays_all (W : World) (n : Int) (A : Option Addr) (c : Nat) (l : List S48) (hC : Kd.C k48 W A l.length l) (hc : l.length ≤ c) (hr : ∀ x ∈ l, ActOk x) :
    Calls Try.prog 5 #[.int .i64 n, .slice A l.length c] W fun e w' => e = .returned (.bool true) ∧ Below W.heap.size W w' := by
  have hlen : l.length ≤ 9223372036854775807 := hC.2.1
  obtain ⟨r, hf, hfew⟩ := few_f l hlen
  cases r with
  | false => exact plays_few W n A c l hC hc _ hf
  | true =>
    obtain ⟨h1, h2⟩ := hfew rfl
    by_cases hn : n ≤ 300
    · refine plays_main W n A c l hC hc _ hf hn h1 h2 (fun x hx => ?_)
      obtain ⟨k0, k1, k2, k3⟩ := hr x hx
      exact ⟨Math.wf_u8 k0, Math.wf_i64 k1, Math.wf_i64 k2, fun y hy => Math.wf_i64 (k3 y hy)⟩
    · exact plays_big W n A c l hC hc _ hf (by omega)
theorem el_act {H : Type} {enc : TypeId × Value → H} {W : World} {base : Nat} {spare : Nat → Bool} {held : Bool} {n : Nat} {cs : List Value} {y : DataW H × List MemPlace} (hl : cs.length = 4)
    (h : DataW.trod enc Try.prog W base spare held n 48 cs = some y) : ∃ v : S48, k48.K W v cs ∧ ActOk v := by
  obtain ⟨xs, m, rfl, _, _, hxl, hf⟩ := DataW.trod_struct Try.underlying48 h
  match cs, hl with
  | [c0, c1, c2, c3], _ =>
    match xs, hxl with
    | [x0, x1, x2, x3], _ =>
      have g0 := hf 0 _ rfl
      have g1 := hf 1 _ rfl
      have g2 := hf 2 _ rfl
      have g3 := hf 3 _ rfl
      obtain ⟨v0, e0, _, w0⟩ := DataW.trod_int Try.underlying5 g0
      obtain ⟨v1, e1, _, w1⟩ := DataW.trod_int Try.underlying3 g1
      obtain ⟨v2, e2, _, w2⟩ := DataW.trod_int Try.underlying3 g2
      obtain ⟨v3, hK, w3⟩ := Open.el_ints Try.underlying23 Try.underlying3 (by kernel_rfl) g3
      have t0 : Try.prog.cellsOf 5 = 1 := by kernel_rfl
      have t1 : Try.prog.cellsOf 3 = 1 := by kernel_rfl
      have t3 : Try.prog.cellsOf 23 = 1 := by kernel_rfl
      obtain ⟨A3, d3, e3, l3, g⟩ := hK
      simp [t0, t1, t3] at e0 e1 e2 e3
      subst e0 e1 e2 e3
      exact ⟨⟨v0, v1, v2, v3⟩, k48_mk W ⟨v0, v1, v2, v3⟩ l3 g, w0, w1, w2, w3⟩
instance : Inhabited S48 := ⟨z48⟩
theorem open_acts {H : Type} {enc : TypeId × Value → H} {W : World} {base : Nat} {spare : Nat → Bool} {held : Bool} {a : Option Addr} {len cap : Nat} {D : DataW H} {ps : List MemPlace} (h : DataW.Trod enc Try.prog W base spare held 44 (.slice a len cap) D ps) :
    ∃ l : List S48, l.length = len ∧ len ≤ cap ∧ Kd.C k48 W a len l ∧ ∀ v ∈ l, ActOk v :=
  Open.open_row k48 ActOk Try.underlying44 (by kernel_rfl) (fun n cs y hcs hy => el_act hcs hy) h
end Go.Proofs.Ytcknljndogbbhaa.Bm
