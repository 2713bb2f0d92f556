/- The directory: Join of what was decoded, All of what was joined (plain). Conditions: octets. -/
import Derived.Test.YtfkfpeiocdjniaaEnA
namespace Go.Proofs.Ytfkfpeiocdjniaa.Ec
open Go.RowKit Go.Proofs.Ytfkfpeiocdjniaa.PAll Go.Proofs.YtfkfpeiocdjniaaW.PrintWords Go.Proofs.YtfkfpeiocdjniaaW.PrintLast Go.Proofs.YtfkfpeiocdjniaaW.PrintMore Go.Proofs.Ytfkfpeiocdjniaa.Math Go.Proofs.Ytfkfpeiocdjniaa
set_option linter.unusedVariables false
set_option linter.unusedSimpArgs false
theorem evAll {α β : Type} {g : α → Nat → Option β} {r : α → β} : ∀ l : List α, (∀ x ∈ l, Ev (g x) (r x)) → ∃ K, ∀ k, K ≤ k → ∀ x ∈ l, g x k = some (r x)
  | [], _ => ⟨0, fun _ _ x h => by cases h⟩
  | y :: l, h => by
    obtain ⟨K1, h1⟩ := h y (by simp)
    obtain ⟨K2, h2⟩ := evAll l (fun x hx => h x (by simp [hx]))
    refine ⟨K1 + K2, fun k hk x hx => ?_⟩
    rcases List.mem_cons.1 hx with rfl | hx
    · exact h1 k (by omega)
    · exact h2 k (by omega) x hx
def encR (x : S33) : List Int × Int := if mayB x.f0 x.f1 = true then (encL x.f0 x.f1, 0) else ([], 1)
theorem encR_len (x : S33) : (encR x).1.length ≤ 64 := by
  unfold encR; cases mayB x.f0 x.f1
  · simp
  · simp [enc_length]
def esOf (l : List Int) (m : Nat) : List S33 := (List.range m).map fun j => decE (dch l j)
theorem esOf_length (l : List Int) (m : Nat) : (esOf l m).length = m := by unfold esOf; rw [List.length_map, List.length_range]
theorem encR_dec (l : List Int) (j : Nat) (h : okL (chunkL l j) = true) : encR (decE (dch l j)) = (chunkL l j, 0) := by
  have e : dch l j = (nmOf (chunkL l j), inoOf (chunkL l j), 0) := by unfold dch decR; rw [if_pos h]
  unfold okL at h
  rw [Bool.and_eq_true, Bool.and_eq_true] at h
  rw [e]
  unfold decE encR
  rw [if_pos h.2.1, of_decide_eq_true h.2.2]
theorem chunk_join (l : List Int) (i : Nat) (h : 64 * i + 64 ≤ l.length) : l.take (64 * i) ++ chunkL l i = l.take (64 * (i + 1)) := by
  unfold chunkL
  have e : l.take (64 * i) = (l.take (64 * i + 64)).take (64 * i) := by rw [List.take_take]; congr 1; omega
  rw [e, List.take_append_drop]
  rfl
theorem join_back (l : List Int) (m : Nat) (hl : l.length = 64 * m) (hall : ∀ j, j < m → okL (chunkL l j) = true) : ∀ d i : Nat, i + d = m → joinF encR (l.take (64 * i)) ((esOf l m).drop i) = (l, 0)
  | 0, i, h => by
    rw [List.drop_of_length_le (by rw [esOf_length]; omega), List.take_of_length_le (by omega)]
    rfl
  | d + 1, i, h => by
    have hi : i < (esOf l m).length := by rw [esOf_length]; omega
    rw [List.drop_eq_getElem_cons hi]
    have hg : (esOf l m)[i] = decE (dch l i) := by simp [esOf]
    rw [hg]
    simp only [joinF]
    rw [encR_dec l i (hall i (by omega)), if_pos rfl]
    show joinF encR (l.take (64 * i) ++ chunkL l i) _ = _
    rw [chunk_join l i (by omega)]
    exact join_back l m hl hall d (i + 1) (by omega)
/-! ### Join's bytes -/
def flat (l : List S33) : List Int := l.flatMap fun x => encL x.f0 x.f1
theorem flat_cons (x : S33) (l : List S33) : flat (x :: l) = encL x.f0 x.f1 ++ flat l := by simp [flat]
theorem flat_length : ∀ l : List S33, (flat l).length = 64 * l.length
  | [] => rfl
  | x :: l => by rw [flat_cons, List.length_append, enc_length, flat_length l, List.length_cons]; omega
theorem flat_oct : ∀ l : List S33, Oct (flat l)
  | [] => fun x h => by simp [flat] at h
  | x :: l => by
    rw [flat_cons]
    intro y hy
    rcases List.mem_append.1 hy with h | h
    · exact enc_oct _ _ y h
    · exact flat_oct l y h
theorem flat_drop : ∀ (l : List S33) (j : Nat), (flat l).drop (64 * j) = flat (l.drop j)
  | l, 0 => by simp
  | [], j + 1 => by simp [flat]
  | x :: l, j + 1 => by
    rw [flat_cons, List.drop_succ_cons, ← flat_drop l j, List.drop_append, List.drop_of_length_le (by rw [enc_length]; omega), enc_length, List.nil_append]
    congr 1
theorem chunk_flat (l : List S33) (j : Nat) (hj : j < l.length) : chunkL (flat l) j = encL (l[j]).f0 (l[j]).f1 := by
  rw [chunk_take, flat_drop, List.drop_eq_getElem_cons hj, flat_cons, List.take_append_of_le_length (by rw [enc_length]; omega), List.take_of_length_le (by rw [enc_length]; omega)]
def mayAll (l : List S33) : Bool := l.all fun x => mayB x.f0 x.f1
theorem joinF_flat : ∀ (l : List S33) (out : List Int), mayAll l = true → joinF encR out l = (out ++ flat l, 0)
  | [], out, _ => by simp [joinF, flat]
  | x :: l, out, h => by
    unfold mayAll at h
    rw [List.all_cons, Bool.and_eq_true] at h
    simp only [joinF]
    have e : encR x = (encL x.f0 x.f1, 0) := by unfold encR; rw [if_pos h.1]
    rw [e, if_pos rfl, joinF_flat l _ h.2, flat_cons, List.append_assoc]
theorem joinF_none : ∀ (l : List S33) (out : List Int), mayAll l = false → joinF encR out l = ([], 1)
  | [], out, h => by cases h
  | x :: l, out, h => by
    unfold mayAll at h
    rw [List.all_cons] at h
    simp only [joinF]
    cases hm : mayB x.f0 x.f1
    · have e : encR x = ([], 1) := by unfold encR; rw [hm]; rfl
      rw [e, if_neg (by decide)]
    · have e : encR x = (encL x.f0 x.f1, 0) := by unfold encR; rw [if_pos hm]
      rw [e, if_pos rfl]
      rw [hm, Bool.true_and] at h
      exact joinF_none l _ h
theorem es_flat (l : List S33) (h : mayAll l = true) : esOf (flat l) l.length = l := by
  apply List.ext_getElem
  · rw [esOf_length]
  · intro j h1 h2
    have hm : mayB (l[j]).f0 (l[j]).f1 = true := by
      unfold mayAll at h
      rw [List.all_eq_true] at h
      exact h _ (List.getElem_mem _)
    have e : (esOf (flat l) l.length)[j] = decE (dch (flat l) j) := by simp [esOf]
    rw [e]
    unfold dch
    rw [chunk_flat l j h2, dec_enc hm]
    rfl
theorem all_flat (l : List S33) (h : mayAll l = true) (hd : dupFrom [] (nms l) = false) : allR (dch (flat l)) l.length = (l, 0) := by
  have hes := es_flat l h
  unfold esOf at hes
  unfold allR
  rw [if_pos (by
    rw [List.all_eq_true]
    intro j hj
    rw [List.mem_range] at hj
    apply decide_eq_true
    unfold dch
    rw [chunk_flat l j hj, dec_enc (by
      unfold mayAll at h
      rw [List.all_eq_true] at h
      exact h _ (List.getElem_mem _))]), hes, hd, if_neg (by simp)]
/-! ### few -/
theorem few_ev (l : List S33) (hl : l.length ≤ 140737488351232) : ∀ d i : Nat, i + d = l.length → Ev (fun k => cantlelaw08_few.l0 k l l (l.length : Int) (i : Int)) (((l.drop i).all fun x => decide (x.f0.size ≤ 100)) && decide (l.length ≤ 40))
  | 0, i, h => by
    rw [List.drop_of_length_le (by omega)]
    refine Ev.step (f := fun _ => some _) (fun k => ?_) (Ev.now _)
    simp only [cantlelaw08_few.l0]
    rw [if_neg (by omega), List.all_nil, Bool.true_and]
    congr 1
    exact decide_eq_decide.2 ⟨fun h => by omega, fun h => by omega⟩
  | d + 1, i, h => by
    have hi : i < l.length := by omega
    have ih := few_ev l hl d (i + 1) (by omega)
    rw [List.drop_eq_getElem_cons hi, List.all_cons]
    by_cases hs : (l[i]).f0.size ≤ 100
    · rw [decide_eq_true hs, Bool.true_and]
      refine Ev.step (fun k => ?_) ih
      simp only [cantlelaw08_few.l0]
      rw [if_pos (by omega), if_pos (by omega), if_pos (by omega), rd33 l i hi, if_neg (by omega), w64 (n := (i : Int) + 1) (by omega) (by omega)]
      rfl
    · rw [decide_eq_false hs, Bool.false_and, Bool.false_and]
      refine Ev.step (f := fun _ => some _) (fun k => ?_) (Ev.now _)
      simp only [cantlelaw08_few.l0]
      rw [if_pos (by omega), if_pos (by omega), if_pos (by omega), rd33 l i hi, if_pos (by omega)]
def fewB (l : List S33) : Bool := (l.all fun x => decide (x.f0.size ≤ 100)) && decide (l.length ≤ 40)
theorem fewL_f (l : List S33) (hl : l.length ≤ 140737488351232) : Ev (fun k => cantlelaw08_few.f k l) (fewB l) := by
  have := few_ev l hl l.length 0 (by omega)
  rw [List.drop_zero] at this
  exact this
end Go.Proofs.Ytfkfpeiocdjniaa.Ec
