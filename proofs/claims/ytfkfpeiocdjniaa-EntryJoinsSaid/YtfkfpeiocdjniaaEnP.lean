/- The entries: what the program's and the document's functions are (plain). Conditions: octets. -/
import Derived.Test.YtfkfpeiocdjniaaEnM
namespace Go.Proofs.Ytfkfpeiocdjniaa.Ec
open Go.RowKit Go.Proofs.Ytfkfpeiocdjniaa.PAll Go.Proofs.YtfkfpeiocdjniaaW.PrintWords Go.Proofs.YtfkfpeiocdjniaaW.PrintLast Go.Proofs.YtfkfpeiocdjniaaW.PrintMore Go.Proofs.Ytfkfpeiocdjniaa.Math Go.Proofs.Ytfkfpeiocdjniaa
set_option linter.unusedVariables false
set_option linter.unusedSimpArgs false
theorem toList_data (a : ByteArray) : a.toList = a.data.toList := ByteArray.toList_eq a
theorem toList_inj {a b : ByteArray} (h : a.toList = b.toList) : a = b := by
  rw [ByteArray.toList_eq, ByteArray.toList_eq] at h
  cases a
  cases b
  congr
  exact Array.toList_inj.1 h
theorem toList_nil (s : ByteArray) : s.toList = ([] : List UInt8) ↔ s.size = 0 := by
  rw [toList_data, ← List.length_eq_zero_iff, Array.length_toList]; rfl
def rightB (s : ByteArray) : Bool := decide (s.size ≠ 0 ∧ s.size ≤ 48) && (!(s.toList == [46]) && (!(s.toList == [46, 46]) && !(Ca.bad s)))
def mayB (s : ByteArray) (x : Int) : Bool := rightB s && decide (0 ≤ x ∧ x < 65534)
theorem Right_f (s : ByteArray) : entry_Right.f s = some (rightB s) := by
  unfold entry_Right.f rightB
  by_cases h0 : s.size = 0
  · rw [if_pos ((toList_nil s).2 h0)]; simp [h0]
  · rw [if_neg (fun h => h0 ((toList_nil s).1 h))]
    by_cases h48 : s.size ≤ 48
    · rw [if_pos (by omega), decide_eq_true ⟨h0, h48⟩, Bool.true_and]
      by_cases h1 : s.toList = [46]
      · rw [if_pos h1]; simp [h1]
      · rw [if_neg h1]
        by_cases h2 : s.toList = [46, 46]
        · rw [if_pos h2]; simp [h2]
        · rw [if_neg h2]
          unfold strings_ContainsAny.f
          rw [if_pos ⟨rfl, by omega⟩, (beq_eq_false_iff_ne (a := s.toList) (b := [46])).2 h1, (beq_eq_false_iff_ne (a := s.toList) (b := [46, 46])).2 h2]
          rfl
    · rw [if_neg (by omega), decide_eq_false (by omega)]; rfl
theorem May_f (s : ByteArray) (x : Int) : entry_Entry_May.f s x = some (mayB s x) := by
  unfold entry_Entry_May.f mayB
  rw [Right_f, Option.bind_some]
  cases rightB s
  · simp
  · rw [if_pos rfl, Bool.true_and]
    by_cases h : x ≥ 0
    · rw [if_pos h]; congr 1; simp [h]
    · rw [if_neg h]; congr 1; symm; exact decide_eq_false (by omega)
theorem bt_get (s : ByteArray) (i : Nat) (h : i < s.size) : bt s (i : Int) = ((s.data.toList[i]'(by rw [Array.length_toList]; exact h)).toNat : Int) := by
  unfold bt
  rw [dif_pos (by rw [Int.toNat_natCast]; exact h)]
  simp [ByteArray.getElem_eq_getElem_data]
theorem rright_ev (s : ByteArray) (hs : s.size ≤ 48) : ∀ (d i : Nat), i + d = s.size → Ev (fun k => cantleref08_Right.l0 k s (i : Int)) (!((s.data.toList.drop i).any fun b => b == 47 || b == 0))
  | 0, i, h => by
    refine Ev.step (f := fun _ => some _) (fun k => ?_) (Ev.now _)
    simp only [cantleref08_Right.l0]
    rw [if_neg (by omega), List.drop_of_length_le (by rw [Array.length_toList]; show s.size ≤ i; omega)]; rfl
  | d + 1, i, h => by
    have hi : i < s.data.toList.length := by rw [Array.length_toList]; show i < s.size; omega
    have ih := rright_ev s hs d (i + 1) (by omega)
    rw [List.drop_eq_getElem_cons hi, List.any_cons]
    have hb := bt_get s i (by omega)
    by_cases h0 : s.data.toList[i] = 0
    · refine Ev.step (f := fun _ => some _) (fun k => ?_) (Ev.now _)
      simp only [cantleref08_Right.l0]
      rw [if_pos (by omega), if_pos (by omega), if_pos (by rw [hb, h0]; rfl), h0]
      rfl
    · have hb0 : bt s (i : Int) ≠ 0 := by
        rw [hb]; intro e; exact h0 (UInt8.toNat_inj.1 (by simpa using e))
      by_cases h47 : s.data.toList[i] = 47
      · refine Ev.step (f := fun _ => some _) (fun k => ?_) (Ev.now _)
        simp only [cantleref08_Right.l0]
        rw [if_pos (by omega), if_pos (by omega), if_neg hb0, if_pos (by rw [hb, h47]; rfl), h47]
        rfl
      · have hb47 : bt s (i : Int) ≠ 47 := by
          rw [hb]; intro e; exact h47 (UInt8.toNat_inj.1 (by rw [show (47 : UInt8).toNat = 47 from rfl]; exact_mod_cast e))
        have e1 : ((i + 1 : Nat) : Int) = (i : Int) + 1 := by omega
        rw [e1] at ih
        have e2 : (s.data.toList[i] == 47 || s.data.toList[i] == 0) = false := by rw [(beq_eq_false_iff_ne (a := s.data.toList[i]) (b := 47)).2 h47, (beq_eq_false_iff_ne (a := s.data.toList[i]) (b := 0)).2 h0]; rfl
        rw [e2, Bool.false_or]
        refine Ev.step (fun k => ?_) ih
        simp only [cantleref08_Right.l0]
        rw [if_pos (by omega), if_pos (by omega), if_neg hb0, if_neg hb47, w64 (n := (i : Int) + 1) (by omega) (by omega)]
theorem rRight_f (s : ByteArray) : Ev (fun k => cantleref08_Right.f k s) (rightB s) := by
  unfold rightB
  have hj : ∀ r : Bool, Ev (fun k => cantleref08_Right.j0 k s true) false := fun r => Ev.step (f := fun _ => some _) (fun k => by simp [cantleref08_Right.j0]) (Ev.now _)
  by_cases h0 : s.size = 0
  · rw [decide_eq_false (by omega)]
    exact Ev.congr (fun k => by unfold cantleref08_Right.f; rw [if_pos ((toList_nil s).2 h0)]) (hj true)
  · by_cases h48 : s.size ≤ 48
    · rw [decide_eq_true ⟨h0, h48⟩, Bool.true_and]
      by_cases h1 : s.toList = [46]
      · rw [show (s.toList == [46]) = true by simp [h1]]
        exact Ev.congr (fun k => by unfold cantleref08_Right.f; rw [if_neg (fun h => h0 ((toList_nil s).1 h)), if_neg (by omega), if_pos h1]) (hj true)
      · rw [show (s.toList == [46]) = false by simp [h1]]
        by_cases h2 : s.toList = [46, 46]
        · rw [show (s.toList == [46, 46]) = true by simp [h2]]
          exact Ev.congr (fun k => by unfold cantleref08_Right.f; rw [if_neg (fun h => h0 ((toList_nil s).1 h)), if_neg (by omega), if_neg h1, show (s.toList == [46, 46]) = true by simp [h2]]) (hj true)
        · rw [show (s.toList == [46, 46]) = false by simp [h2]]
          refine Ev.congr (g := fun k => cantleref08_Right.f k s) (f := fun k => cantleref08_Right.j0 k s false) (fun k => by unfold cantleref08_Right.f; rw [if_neg (fun h => h0 ((toList_nil s).1 h)), if_neg (by omega), if_neg h1, show (s.toList == [46, 46]) = false by simp [h2]]) ?_
          have := rright_ev s h48 s.size 0 (by omega)
          rw [List.drop_zero] at this
          refine Ev.step (fun k => ?_) this
          simp only [cantleref08_Right.j0]
          rw [if_neg (by simp)]; rfl
    · rw [decide_eq_false (by omega), Bool.false_and]
      exact Ev.congr (fun k => by unfold cantleref08_Right.f; rw [if_neg (fun h => h0 ((toList_nil s).1 h)), if_pos (by omega)]) (hj true)
theorem rMay_f (s : ByteArray) (x : Int) : Ev (fun k => cantleref08_May.f k s x) (mayB s x) := by
  unfold cantleref08_May.f mayB
  refine Ev.bind (rRight_f s) ?_
  refine Ev.congr (f := fun _ => some _) (fun k => ?_) (Ev.now _)
  cases rightB s
  · simp
  · rw [if_pos rfl, Bool.true_and]
    by_cases h : x ≥ 0
    · rw [if_pos h]; congr 1; simp [h]; omega
    · rw [if_neg h]; congr 1; symm; exact decide_eq_false (by omega)
theorem right_size {s : ByteArray} (h : rightB s = true) : s.size ≠ 0 ∧ s.size ≤ 48 := by
  unfold rightB at h
  rw [Bool.and_eq_true] at h
  exact of_decide_eq_true h.1
theorem may_range {s : ByteArray} {x : Int} (h : mayB s x = true) : s.size ≤ 48 ∧ 0 ≤ x ∧ x < 65534 := by
  unfold mayB at h
  rw [Bool.and_eq_true] at h
  exact ⟨(right_size h.1).2, of_decide_eq_true h.2⟩
/-! ### Encode -/
def encL (s : ByteArray) (x : Int) : List Int := base s x ++ sums (S32 (base s x))
theorem base_oct (s : ByteArray) (x : Int) : Oct (base s x) := by
  intro y hy
  obtain ⟨i, _, rfl⟩ := List.mem_map.1 hy
  unfold baseF
  have := bt_range s ((i - 4 : Nat) : Int)
  (repeat' split) <;> omega
theorem sums_oct (s : Int) : Oct (sums s) := by
  intro y hy
  simp only [sums, List.mem_cons, List.not_mem_nil, or_false] at hy
  omega
theorem enc_oct (s : ByteArray) (x : Int) : Oct (encL s x) := by
  intro y hy
  rcases List.mem_append.1 hy with h | h
  · exact base_oct s x y h
  · exact sums_oct _ y h
theorem enc_length (s : ByteArray) (x : Int) : (encL s x).length = 64 := by simp [encL, base_length, sums]
theorem Encode_f (s : ByteArray) (x : Int) : Ev (fun k => entry_Encode.f k s x) (if mayB s x = true then (encL s x, 0) else (([] : List Int), 1)) := by
  unfold entry_Encode.f
  cases hm : mayB s x
  · refine Ev.congr (f := fun _ => some _) (fun k => ?_) (Ev.now _)
    rw [May_f, hm, Option.bind_some, if_neg (by simp)]
    simp
  · rw [if_pos rfl]
    have h := sum32_f [base s x] (fun xs hx => by obtain rfl : xs = base s x := by simpa using hx
                                                  exact ⟨base_oct s x, by rw [base_length]; decide⟩) (by simp)
    rw [show [base s x].flatten = base s x from by simp] at h
    refine Ev.congr (f := fun k => (crc_Sum32.f k [base s x]).bind fun t => some (base s x ++ sums t, 0)) (fun k => ?_) (Ev.bind h (Ev.now _))
    rw [May_f, hm, Option.bind_some, if_pos rfl]
/-! ### the document's Encode -/
def bys (s : ByteArray) : List Int := s.data.toList.map fun b => (b.toNat : Int)
theorem bys_length (s : ByteArray) : (bys s).length = s.size := by unfold bys; rw [List.length_map, Array.length_toList]; rfl
theorem bys_oct (s : ByteArray) : Oct (bys s) := by
  intro y hy
  obtain ⟨b, _, rfl⟩ := List.mem_map.1 hy
  have := b.toNat_lt
  omega
theorem bys_get (s : ByteArray) (i : Nat) (h : i < s.size) : (bys s)[i]'(by rw [bys_length]; exact h) = bt s (i : Int) := by
  rw [bt_get s i h]; simp [bys]
theorem str_bys (s : ByteArray) : strOfNums (bys s) = s := by
  apply toList_inj
  rw [toList_data, strOfNums_data, toList_data]
  unfold bys
  rw [List.map_map]
  conv => rhs; rw [← List.map_id s.data.toList]
  apply List.map_congr_left
  intro b _
  simp
theorem str_append (a b : List Int) : strOfNums (a ++ b) = strOfNums a ++ strOfNums b := by
  apply toList_inj
  rw [toList_data, toList_data, strOfNums_data, List.map_append, ByteArray.data_append, Array.toList_append, strOfNums_data, strOfNums_data]
theorem base_eq (s : ByteArray) (x : Int) (hs : s.size ≤ 48) : base s x = [x % 256, x / 256 % 256, (s.size : Int) % 256, 0] ++ bys s ++ List.replicate (56 - s.size) 0 := by
  apply List.ext_getElem
  · rw [base_length]; simp [bys_length]; omega
  · intro i h1 h2
    have h1' : i < 60 := by rw [base_length] at h1; exact h1
    refine Eq.trans (b := baseF s x i) (by simp [base]) ?_
    unfold baseF
    rcases i with _ | _ | _ | _ | i
    · rfl
    · rfl
    · rfl
    · rfl
    · rw [if_neg (by omega), if_neg (by omega), if_neg (by omega), if_neg (by omega)]
      by_cases hi : i < s.size
      · rw [if_pos (by omega), List.getElem_append_left (by simp [bys_length]; omega), List.getElem_append_right (by simp)]
        exact (bys_get s i hi).symm
      · rw [if_neg (by omega), List.getElem_append_right (by simp [bys_length]; omega), List.getElem_replicate]
theorem sums_ref (t : Int) (h0 : 0 ≤ t) (h1 : t < 4294967296) : [t % 256, ((Int.tdiv t 256) % 4294967296) % 256, ((Int.tdiv t 65536) % 4294967296) % 256, ((Int.tdiv t 16777216) % 4294967296) % 256] = sums t := by
  unfold sums
  rw [Int.tdiv_eq_ediv_of_nonneg h0, Int.tdiv_eq_ediv_of_nonneg h0, Int.tdiv_eq_ediv_of_nonneg h0, Int.emod_eq_of_lt (a := t / 256) (by omega) (by omega), Int.emod_eq_of_lt (a := t / 65536) (by omega) (by omega), Int.emod_eq_of_lt (a := t / 16777216) (by omega) (by omega)]
theorem rpad_ev : ∀ (d : Nat) (L : List Int), L.length + d = 60 → Oct L → Ev (fun k => cantleref08_Encode.l0 k (strOfNums L)) (strOfNums (L ++ List.replicate d 0 ++ sums (S32 (L ++ List.replicate d 0))))
  | 0, L, hl, ho => by
    have h := ref32_f (strOfNums L) (by rw [str_size]; omega)
    rw [nb_str L ho] at h
    have hr := S32_range L
    have e : (4294967295 - ((Crc.c32 4294967295 (nats L) : Nat) : Int)) = S32 L := rfl
    rw [e] at h
    rw [show L ++ List.replicate 0 0 = L by simp]
    refine Ev.step (f := fun k => (cantleref02_Sum32.f k (strOfNums L)).bind fun t133 => some (strOfNums (L ++ sums t133))) (fun k => ?_) (Ev.bind h (Ev.now _))
    simp only [cantleref08_Encode.l0]
    rw [if_neg (by rw [str_size]; omega)]
    rcases hc : cantleref02_Sum32.f k (strOfNums L) with _ | t
    · rfl
    · have ht : t = S32 L := by
        obtain ⟨K, hK⟩ := h
        have h1 : cantleref02_Sum32.f (K + k) (strOfNums L) = some (S32 L) := hK (K + k) (by omega)
        have h2 : cantleref02_Sum32.f (K + k) (strOfNums L) = some t := at_rounds (g := fun k => cantleref02_Sum32.f k (strOfNums L)) (fun k => cantleref02_Sum32.mono _ _) (show k ≤ K + k by omega) hc
        rw [h1] at h2
        exact (Option.some.inj h2).symm
      subst ht
      simp only [Option.bind_some]
      rw [sums_ref _ hr.1 hr.2, if_pos (by rw [str_size, str_size]; simp [sums]; omega), str_append]
  | d + 1, L, hl, ho => by
    have ih := rpad_ev d (L ++ [0]) (by simp; omega) (fun y hy => by
      rcases List.mem_append.1 hy with h | h
      · exact ho y h
      · simp at h; omega)
    rw [show L ++ [0] ++ List.replicate d 0 = L ++ List.replicate (d + 1) 0 by simp [List.replicate_succ]] at ih
    refine Ev.step (fun k => ?_) ih
    simp only [cantleref08_Encode.l0, Option.bind_some]
    rw [if_pos (by rw [str_size]; omega), if_pos (by rw [str_size, str_size]; simp; omega), str_append]
theorem rEncode_f (s : ByteArray) (x : Int) (h : mayB s x = true) : Ev (fun k => cantleref08_Encode.f k s x) (strOfNums (encL s x)) := by
  obtain ⟨h1, h2, h3⟩ := may_range h
  have hb := base_eq s x h1
  have ih := rpad_ev (56 - s.size) ([x % 256, x / 256 % 256, (s.size : Int) % 256, 0] ++ bys s) (by simp [bys_length]; omega) (fun y hy => by
    rcases List.mem_append.1 hy with h | h
    · simp only [List.mem_cons, List.not_mem_nil, or_false] at h; omega
    · exact bys_oct s y h)
  rw [← hb] at ih
  refine Ev.congr (fun k => ?_) ih
  unfold cantleref08_Encode.f
  rw [Option.bind_some, if_pos (by rw [str_size]; simp; omega), str_append, str_bys, Int.tmod_eq_emod_of_nonneg h2, Int.tdiv_eq_ediv_of_nonneg h2, w64 (n := x / 256) (by omega) (by omega), Int.emod_emod_of_dvd x (by decide)]
end Go.Proofs.Ytfkfpeiocdjniaa.Ec
