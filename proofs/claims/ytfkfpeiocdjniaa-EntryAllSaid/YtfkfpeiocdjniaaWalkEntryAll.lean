/- EntryAll: the walk and what the functions are, joined. Conditions: as each lemma says. -/
import Derived.Test.YtfkfpeiocdjniaaEaW
import Derived.Test.YtfkfpeiocdjniaaEnB
namespace Go.Proofs.Ytfkfpeiocdjniaa.Ec
open Go.RowKit Go.Proofs.Ytfkfpeiocdjniaa.PAll Go.Proofs.YtfkfpeiocdjniaaW.PrintWords Go.Proofs.YtfkfpeiocdjniaaW.PrintLast Go.Proofs.YtfkfpeiocdjniaaW.PrintMore Go.Proofs.Ytfkfpeiocdjniaa.Math Go.Proofs.Ytfkfpeiocdjniaa
set_option linter.unusedVariables false
theorem allR_cases (dec : Nat → ByteArray × Int × Int) (m : Nat) : (allR dec m = ([], 2)) ∨ ((∀ j, j < m → (dec j).2.2 = 0) ∧ dupFrom [] (nms ((List.range m).map fun j => decE (dec j))) = false ∧ allR dec m = ((List.range m).map (fun j => decE (dec j)), 0)) := by
  unfold allR
  by_cases h : ((List.range m).all fun j => decide ((dec j).2.2 = 0)) = true
  · rw [if_pos h]
    cases hd : dupFrom [] (nms ((List.range m).map fun j => decE (dec j)))
    · right
      refine ⟨fun j hj => ?_, rfl, by rw [if_neg (by simp)]⟩
      rw [List.all_eq_true] at h
      exact of_decide_eq_true (h j (List.mem_range.2 hj))
    · left; rw [if_pos rfl]
  · left; rw [if_neg h]
theorem dirs_all (w0 : World) (A : Option Addr) (c : Nat) (l : List Int) (hC : Kd.C (Kd.int .u8) w0 A l.length l) (hc : l.length ≤ c) (ho : ∀ x ∈ l, 0 ≤ x ∧ x < 256) :
    Calls Try.prog 3 #[.slice A l.length c] w0 fun e w' => e = .returned (.bool true) ∧ Below w0.heap.size w0 w' := by
  obtain ⟨k1, q1⟩ := lives_f
  by_cases hl : l.length ≤ 2000
  · obtain ⟨k2, q2⟩ := rAll_f l ho (by omega)
    by_cases hz : l.length % 64 = 0
    · obtain ⟨m, hm⟩ : ∃ m, l.length = 64 * m := ⟨l.length / 64, by omega⟩
      have hdiv : l.length / 64 = m := by omega
      obtain ⟨k3, q3⟩ := evAll (g := fun j k => entry_Decode.f k (chunkL l j)) (r := fun j => dch l j) (List.range m) (fun j _ => Decode_f (chunkL l j) (chunk_oct ho j))
      have hre : refRes l = if (allR (dch l) m).2 = 0 then ((allR (dch l) m).1.map toRef, true) else ([], false) := by unfold refRes; rw [if_pos hz, hdiv]
      rw [hre] at q2
      have hA : ∀ k, k3 ≤ k → ∀ W, Below w0.heap.size w0 W → Calls Try.prog 9 #[.slice A l.length c] W fun e' w' => ∃ v0, e' = .returned (.tuple #[v0, .int .i64 (allR (dch l) m).2]) ∧ Kd.R k33 33 w' W.heap.size (fun _ => True) v0 (allR (dch l) m).1 ∧ Below W.heap.size W w' := fun k hk W hW =>
        all_even k A c l m hm (by omega) W (Kd.C_below hC hW) hc (dch l) (fun j hj => q3 k hk j (List.mem_range.2 hj)) (fun j _ => dch_two l j) (fun j _ => dch_size l j)
      rcases allR_cases (dch l) m with hr | ⟨hok, hd, hr⟩
      · rw [hr] at q2
        simp only [if_neg (show ¬ (2 : Int) = 0 by decide)] at q2
        have hA' := hA (k1 + k2 + k3) (by omega)
        rw [hr] at hA'
        exact ea_short (k1 + k2 + k3) (q1 _ (by omega)) w0 A c l hl hC hc [] 2 false hA' (q2 _ (by omega)) rfl (fun _ => rfl) (by simp) (fun h => by cases h)
      · rw [hr] at q2
        simp only [if_true] at q2
        obtain ⟨k4, q4⟩ := evAll (g := fun (x : S33) k => entry_Encode.f k x.f0 x.f1) (r := encR) (esOf l m) (fun x _ => Encode_f x.f0 x.f1)
        have hA' := hA (k1 + k2 + k3 + k4) (by omega)
        rw [hr] at hA'
        have hle : (esOf l m).length = m := esOf_length l m
        refine ea_short (k1 + k2 + k3 + k4) (q1 _ (by omega)) w0 A c l hl hC hc (esOf l m) 0 true hA' (q2 _ (by omega)) rfl (fun h => by cases h) (by omega) (fun _ W A' c' hC' hc' => ?_)
        have hjr : joinR encR (esOf l m) = (l, 0) := by
          unfold joinR
          have hd' : dupFrom [] (nms (esOf l m)) = false := hd
          rw [hd', if_neg (by simp)]
          have := join_back l m hm (fun j hj => (dch_ok l j).1 (hok j hj)) m 0 (by omega)
          rw [Nat.mul_zero, List.take_zero, List.drop_zero] at this
          exact this
        have := join_calls (k1 + k2 + k3 + k4) encR A' c' (esOf l m) W hC' hc' (fun x hx => by
          obtain ⟨j, hj, rfl⟩ := List.mem_map.1 hx
          exact dch_size l j) (by omega) (q4 _ (by omega)) (fun x _ => encR_len x)
        rw [hjr] at this
        exact this
    · have hre : refRes l = ([], false) := by unfold refRes; rw [if_neg hz]
      rw [hre] at q2
      refine ea_short (k1 + k2) (q1 _ (by omega)) w0 A c l hl hC hc [] 2 false (fun W hW => ?_) (q2 _ (by omega)) rfl (fun _ => rfl) (by simp) (fun h => by cases h)
      refine (all_odd A c l.length W hz (by omega)).mono ?_
      rintro e' w' ⟨rfl, hb⟩
      exact ⟨_, rfl, Kd.R_nil _ _ _ _ _, hb⟩
  · exact ea_long k1 (q1 _ (Nat.le_refl _)) w0 A c l (by omega)
end Go.Proofs.Ytfkfpeiocdjniaa.Ec
