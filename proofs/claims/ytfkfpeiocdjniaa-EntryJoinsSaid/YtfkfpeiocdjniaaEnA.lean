/- The directory: the document's Twice and All, Join of what was decoded, All of what was joined (plain). Conditions: octets. -/
import Derived.Test.YtfkfpeiocdjniaaEnQ
import Derived.Test.YtfkfpeiocdjniaaAlW
namespace Go.Proofs.Ytfkfpeiocdjniaa.Ec
open Go.RowKit Go.Proofs.Ytfkfpeiocdjniaa.PAll Go.Proofs.YtfkfpeiocdjniaaW.PrintWords Go.Proofs.YtfkfpeiocdjniaaW.PrintLast Go.Proofs.YtfkfpeiocdjniaaW.PrintMore Go.Proofs.Ytfkfpeiocdjniaa.Math Go.Proofs.Ytfkfpeiocdjniaa
set_option linter.unusedVariables false
set_option linter.unusedSimpArgs false
/-! ### Twice -/
def nm32 (l : List PAll.S32) : List ByteArray := l.map fun x => x.f0
theorem rd32 (l : List PAll.S32) (i : Nat) (h : i < l.length) : rd_T32 l (i : Int) = l[i] := by unfold rd_T32; simp [h]
theorem tw1 (xs : List PAll.S32) (hl : xs.length ≤ 1000000) (q : Nat) (hq : q < xs.length) (R : Bool) (hR : Ev (fun k => cantleref08_Twice.l0 k xs (xs.length : Int) ((q + 1 : Nat) : Int)) R) :
    ∀ d i : Nat, i + d = q → Ev (fun k => cantleref08_Twice.l1 k xs (q : Int) (xs.length : Int) (q : Int) (q : Int) (i : Int)) (if ((nm32 (xs.take q)).drop i).any (fun t => decide (t = (xs[q]).f0)) = true then true else R)
  | 0, i, h => by
    have hz : (nm32 (xs.take q)).drop i = [] := by apply List.drop_of_length_le; unfold nm32; rw [List.length_map, List.length_take]; omega
    rw [hz, if_neg (by simp)]
    refine Ev.step (fun k => ?_) hR
    simp only [cantleref08_Twice.l1]
    rw [if_neg (by omega), w64 (n := (q : Int) + 1) (by omega) (by omega)]
    rfl
  | d + 1, i, h => by
    have ih := tw1 xs hl q hq R hR d (i + 1) (by omega)
    have hi : i < (nm32 (xs.take q)).length := by unfold nm32; rw [List.length_map, List.length_take]; omega
    have hg : (nm32 (xs.take q))[i] = (xs[i]'(by omega)).f0 := by simp [nm32]
    rw [List.drop_eq_getElem_cons hi, List.any_cons, hg]
    by_cases e : (xs[i]'(by omega)).f0 = (xs[q]).f0
    · rw [decide_eq_true e, Bool.true_or, if_pos rfl]
      refine Ev.step (f := fun _ => some _) (fun k => ?_) (Ev.now _)
      simp only [cantleref08_Twice.l1]
      rw [if_pos (by omega), if_pos (by omega), if_pos (by omega), if_pos (by omega), if_pos (by omega), rd32 xs q hq, rd32 xs i (by omega), if_pos (by rw [e])]
    · rw [decide_eq_false e, Bool.false_or]
      refine Ev.step (fun k => ?_) ih
      simp only [cantleref08_Twice.l1]
      rw [if_pos (by omega), if_pos (by omega), if_pos (by omega), if_pos (by omega), if_pos (by omega), rd32 xs q hq, rd32 xs i (by omega), if_neg (fun h => e (toList_inj h).symm), w64 (n := (i : Int) + 1) (by omega) (by omega)]
      rfl
theorem tw0 (xs : List PAll.S32) (hl : xs.length ≤ 1000000) : ∀ d q : Nat, q + d = xs.length → Ev (fun k => cantleref08_Twice.l0 k xs (xs.length : Int) (q : Int)) (dupFrom (nm32 (xs.take q)) (nm32 (xs.drop q)))
  | 0, q, h => by
    rw [List.drop_of_length_le (by omega)]
    refine Ev.step (f := fun _ => some _) (fun k => ?_) (Ev.now _)
    simp only [cantleref08_Twice.l0]
    rw [if_neg (by omega)]
    rfl
  | d + 1, q, h => by
    have hq : q < xs.length := by omega
    have h1 := tw1 xs hl q hq _ (tw0 xs hl d (q + 1) (by omega)) q 0 (by omega)
    have e1 : nm32 (xs.drop q) = (xs[q]).f0 :: nm32 (xs.drop (q + 1)) := by unfold nm32; rw [List.drop_eq_getElem_cons hq]; rfl
    have e2 : nm32 (xs.take (q + 1)) = nm32 (xs.take q) ++ [(xs[q]).f0] := by unfold nm32; rw [List.take_succ_eq_append_getElem hq, List.map_append]; rfl
    rw [e1]
    rw [e2, List.drop_zero] at h1
    simp only [dupFrom, memB]
    refine Ev.step (fun k => ?_) h1
    simp only [cantleref08_Twice.l0]
    rw [if_pos (by omega)]
    rfl
theorem rTwice_f (xs : List PAll.S32) (hl : xs.length ≤ 1000000) : Ev (fun k => cantleref08_Twice.f k xs) (dupFrom [] (nm32 xs)) := by
  have := tw0 xs hl xs.length 0 (by omega)
  rw [List.take_zero, List.drop_zero] at this
  exact this
theorem nm32_refs (l : List S33) : nm32 (l.map toRef) = nms l := by unfold nm32 nms; rw [List.map_map]; rfl
/-! ### All -/
def dch (l : List Int) (j : Nat) : ByteArray × Int × Int := decR (chunkL l j)
theorem dch_two (l : List Int) (j : Nat) : (dch l j).2.2 = 0 ∨ (dch l j).2.2 = 2 := by
  unfold dch decR; cases okL (chunkL l j)
  · right; rfl
  · left; rfl
theorem dch_ok (l : List Int) (j : Nat) : (dch l j).2.2 = 0 ↔ okL (chunkL l j) = true := by
  unfold dch decR; cases okL (chunkL l j)
  · simp
  · simp
theorem dch_size (l : List Int) (j : Nat) : (dch l j).1.size ≤ 1000 := by
  unfold dch decR
  cases h : okL (chunkL l j)
  · rw [if_neg (by simp)]; show (0 : Nat) ≤ 1000; omega
  · rw [if_pos rfl]
    unfold okL at h
    rw [Bool.and_eq_true, Bool.and_eq_true] at h
    have := (may_range h.2.1).1
    show (nmOf _).size ≤ 1000
    omega
theorem chunk_oct {l : List Int} (ho : Oct l) (j : Nat) : Oct (chunkL l j) := fun x hx => ho x (List.mem_of_mem_take (List.mem_of_mem_drop hx))
def refRes (l : List Int) : List PAll.S32 × Bool := if l.length % 64 = 0 then (if (allR (dch l) (l.length / 64)).2 = 0 then ((allR (dch l) (l.length / 64)).1.map toRef, true) else ([], false)) else ([], false)
def outs (l : List Int) (i : Nat) : List PAll.S32 := (List.range i).map fun j => toRef (decE (dch l j))
theorem str_cut2 (l : List Int) (a n : Nat) : (strOfNums l).extract a n = strOfNums ((l.take n).drop a) := by
  apply toList_inj
  rw [toList_data, toList_data, strOfNums_data, ByteArray.data_extract, Array.toList_extract, List.extract_eq_take_drop, strOfNums_data, List.map_drop, List.map_take, List.drop_take]
theorem chunk_take (l : List Int) (j : Nat) : chunkL l j = (l.drop (64 * j)).take 64 := by
  unfold chunkL; rw [List.drop_take]; congr 1; omega
theorem rAll_ev (l : List Int) (ho : Oct l) (hl : l.length ≤ 1000000) : ∀ d i : Nat, i + d = l.length / 64 → (∀ j, j < i → okL (chunkL l j) = true) → Ev (fun k => cantleref08_All.l0 k (strOfNums (l.drop (64 * i))) (outs l i)) (refRes l)
  | 0, i, h, hok => by
    have hlen : (l.drop (64 * i)).length = l.length % 64 := by rw [List.length_drop]; omega
    have hall : ((List.range i).all fun j => decide ((dch l j).2.2 = 0)) = true := by
      rw [List.all_eq_true]
      intro j hj
      exact decide_eq_true ((dch_ok l j).2 (hok j (List.mem_range.1 hj)))
    by_cases hz : l.length % 64 = 0
    · have ht := rTwice_f (outs l i) (by unfold outs; rw [List.length_map, List.length_range]; omega)
      have hn : nm32 (outs l i) = nms ((List.range i).map fun j => decE (dch l j)) := by unfold nm32 outs nms; rw [List.map_map, List.map_map]; rfl
      rw [hn] at ht
      have hemp : (strOfNums (l.drop (64 * i))).toList = ([] : List UInt8) := (toList_nil _).2 (by rw [str_size, hlen, hz])
      have hsz : (strOfNums (l.drop (64 * i))).size = 0 := by rw [str_size, hlen, hz]
      unfold refRes
      rw [if_pos hz, show l.length / 64 = i by omega]
      unfold allR
      rw [if_pos hall]
      refine Ev.step (f := fun k => (cantleref08_Twice.f k (outs l i)).bind fun t148 => (if t148 = true then (some (([] : List (PAll.S32)), false)) else (some (outs l i, true)))) (fun k => ?_) (Ev.bind ht ?_)
      · simp only [cantleref08_All.l0]
        rw [if_neg (by omega), if_pos hemp]
      · cases hd : dupFrom [] (nms ((List.range i).map fun j => decE (dch l j)))
        · simp only [Bool.false_eq_true, if_false, if_true]
          have e : outs l i = ((List.range i).map fun j => decE (dch l j)).map toRef := by unfold outs; rw [List.map_map]; rfl
          rw [← e]
          exact Ev.now _
        · simp only [if_true]
          exact Ev.now _
    · have hs : ¬ (strOfNums (l.drop (64 * i))).toList = ([] : List UInt8) := fun h => hz (by have := (toList_nil _).1 h; rw [str_size, hlen] at this; exact this)
      unfold refRes
      rw [if_neg hz]
      refine Ev.step (f := fun _ => some _) (fun k => ?_) (Ev.now _)
      simp only [cantleref08_All.l0]
      rw [if_neg (by rw [str_size, hlen]; omega), if_neg hs]
  | d + 1, i, h, hok => by
    have hlen : (l.drop (64 * i)).length = l.length - 64 * i := List.length_drop
    have hsz : (strOfNums (l.drop (64 * i))).size = l.length - 64 * i := by rw [str_size, hlen]
    have hc : (strOfNums (l.drop (64 * i))).extract 0 64 = strOfNums (chunkL l i) := by rw [str_cut2, List.drop_zero, chunk_take]
    have hr : (strOfNums (l.drop (64 * i))).extract 64 (strOfNums (l.drop (64 * i))).size = strOfNums (l.drop (64 * (i + 1))) := by
      rw [str_cut2, hsz, List.take_of_length_le (by omega), List.drop_drop]; congr 2
    have hD := rDecode_f (chunkL l i) (chunk_oct ho i)
    have hdc : decR (chunkL l i) = dch l i := rfl
    rw [hdc] at hD
    have hol : (outs l i).length = i := by unfold outs; rw [List.length_map, List.length_range]
    cases hk : okL (chunkL l i)
    · have hre : refRes l = ([], false) := by
        unfold refRes allR
        rw [if_neg (c := ((List.range (l.length / 64)).all fun j => decide ((dch l j).2.2 = 0)) = true) (fun h2 => by
          rw [List.all_eq_true] at h2
          have := (dch_ok l i).1 (of_decide_eq_true (h2 i (List.mem_range.2 (by omega))))
          rw [hk] at this; cases this)]
        by_cases hz : l.length % 64 = 0
        · rw [if_pos hz]; rfl
        · rw [if_neg hz]
      rw [hre]
      rw [hk] at hD
      refine Ev.step (f := fun k => (cantleref08_Decode.f k (strOfNums (chunkL l i))).bind fun bt141 => (if bt141.2.2 = true then (if (outs l i).length < 5864062014805 then (cantleref08_All.l0 k (strOfNums (l.drop (64 * (i + 1)))) (outs l i ++ [(⟨bt141.1, bt141.2.1⟩ : PAll.S32)])) else (none)) else (some (([] : List (PAll.S32)), false)))) (fun k => ?_) (Ev.bind hD ?_)
      · simp only [cantleref08_All.l0]
        rw [if_pos (by omega), if_pos (by omega), if_pos (by omega), hc, hr]
      · simp only [Bool.false_eq_true, if_false]
        exact Ev.now _
    · have ih := rAll_ev l ho hl d (i + 1) (by omega) (fun j hj => by
        by_cases e : j = i
        · subst e; exact hk
        · exact hok j (by omega))
      have ho2 : outs l (i + 1) = outs l i ++ [(⟨(dch l i).1, (dch l i).2.1⟩ : PAll.S32)] := by unfold outs; rw [List.range_succ, List.map_append]; rfl
      rw [ho2] at ih
      rw [hk] at hD
      refine Ev.step (f := fun k => (cantleref08_Decode.f k (strOfNums (chunkL l i))).bind fun bt141 => (if bt141.2.2 = true then (if (outs l i).length < 5864062014805 then (cantleref08_All.l0 k (strOfNums (l.drop (64 * (i + 1)))) (outs l i ++ [(⟨bt141.1, bt141.2.1⟩ : PAll.S32)])) else (none)) else (some (([] : List (PAll.S32)), false)))) (fun k => ?_) (Ev.bind hD ?_)
      · simp only [cantleref08_All.l0]
        rw [if_pos (by omega), if_pos (by omega), if_pos (by omega), hc, hr]
      · simp only [if_true, if_pos (show (outs l i).length < 5864062014805 by omega)]
        exact ih
theorem rAll_f (l : List Int) (ho : Oct l) (hl : l.length ≤ 1000000) : Ev (fun k => cantleref08_All.f k (strOfNums l)) (refRes l) := by
  have := rAll_ev l ho hl (l.length / 64) 0 (by omega) (fun j hj => by omega)
  rw [Nat.mul_zero, List.drop_zero] at this
  exact this
end Go.Proofs.Ytfkfpeiocdjniaa.Ec
