/- EntryEncodes: the walk and what the functions are, joined. Conditions: as each lemma says. -/
import Derived.Test.YtfkfpeiocdjniaaEnW
import Derived.Test.YtfkfpeiocdjniaaEnQ
namespace Go.Proofs.Ytfkfpeiocdjniaa.Ec
open Go.RowKit Go.Proofs.Ytfkfpeiocdjniaa.PAll Go.Proofs.YtfkfpeiocdjniaaW.PrintWords Go.Proofs.YtfkfpeiocdjniaaW.PrintLast Go.Proofs.YtfkfpeiocdjniaaW.PrintMore Go.Proofs.Ytfkfpeiocdjniaa.Math Go.Proofs.Ytfkfpeiocdjniaa
set_option linter.unusedVariables false
theorem encodes_all (w0 : World) (s : ByteArray) (x : Int) :
    Calls Try.prog 5 #[.agg #[.string s, .int .i64 x]] w0 fun e w' => e = .returned (.bool true) ∧ Below w0.heap.size w0 w' := by
  obtain ⟨k1, q1⟩ := lives_f
  obtain ⟨k2, q2⟩ := few_f s x
  by_cases hl : s.size ≤ 100
  · rw [decide_eq_true hl] at q2
    obtain ⟨k3, q3⟩ := rMay_f s x
    obtain ⟨k4, q4⟩ := Encode_f s x
    obtain ⟨k5, q5⟩ := rRight_f s
    cases hm : mayB s x
    · rw [hm] at q4 q3
      rw [if_neg (by simp)] at q4
      exact ee_short (k1 + k2 + k3 + k4 + k5) (q1 _ (by omega)) w0 s x (q2 _ (by omega)) false (rightB s) [] 1 (q3 _ (by omega)) (q4 _ (by omega)) (Right_f s) (q5 _ (by omega)) (hm ▸ May_f s x) (fun _ => ⟨rfl, rfl⟩) (fun h => by cases h)
    · rw [hm] at q4 q3
      rw [if_pos rfl] at q4
      obtain ⟨k6, q6⟩ := Decode_f (encL s x) (enc_oct s x)
      obtain ⟨k7, q7⟩ := rEncode_f s x hm
      rw [dec_enc hm] at q6
      exact ee_short (k1 + k2 + k3 + k4 + k5 + k6 + k7) (q1 _ (by omega)) w0 s x (q2 _ (by omega)) true (rightB s) (encL s x) 0 (q3 _ (by omega)) (q4 _ (by omega)) (Right_f s) (q5 _ (by omega)) (hm ▸ May_f s x) (fun h => by cases h) (fun _ => ⟨rfl, q6 _ (by omega), q7 _ (by omega)⟩)
  · rw [decide_eq_false hl] at q2
    exact ee_long (k1 + k2) (q1 _ (by omega)) w0 s x (q2 _ (by omega))
end Go.Proofs.Ytfkfpeiocdjniaa.Ec
