/- EntryDecodes: the walk and what the functions are, joined. Conditions: as each lemma says. -/
import Derived.Test.YtfkfpeiocdjniaaEdW
import Derived.Test.YtfkfpeiocdjniaaEnQ
namespace Go.Proofs.Ytfkfpeiocdjniaa.Ec
open Go.RowKit Go.Proofs.Ytfkfpeiocdjniaa.PAll Go.Proofs.YtfkfpeiocdjniaaW.PrintWords Go.Proofs.YtfkfpeiocdjniaaW.PrintLast Go.Proofs.YtfkfpeiocdjniaaW.PrintMore Go.Proofs.Ytfkfpeiocdjniaa.Math Go.Proofs.Ytfkfpeiocdjniaa
set_option linter.unusedVariables false
theorem decodes_all (w0 : World) (A : Option Addr) (c : Nat) (l : List Int) (hC : Kd.C (Kd.int .u8) w0 A l.length l) (hc : l.length ≤ c) (ho : ∀ x ∈ l, 0 ≤ x ∧ x < 256) :
    Calls Try.prog 6 #[.slice A l.length c] w0 fun e w' => e = .returned (.bool true) ∧ Below w0.heap.size w0 w' := by
  obtain ⟨k1, q1⟩ := lives_f
  obtain ⟨k2, q2⟩ := Decode_f l ho
  obtain ⟨k3, q3⟩ := rDecode_f l ho
  by_cases hl : l.length ≤ 200
  · exact ed_short (k1 + k2 + k3) (q1 _ (by omega)) w0 A c l hl hC hc (decR l).1 (decR l).2.1 (decR l).2.2 (okL l) (q2 _ (by omega)) (q3 _ (by omega)) (by unfold decR; cases okL l <;> rfl)
  · exact ed_long k1 (q1 _ (Nat.le_refl _)) w0 A c l (by omega)
end Go.Proofs.Ytfkfpeiocdjniaa.Ec
