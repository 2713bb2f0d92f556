/- The entries: Decode, what is encoded is decoded, turned bits are told (plain). Conditions: octets. -/
import Derived.Test.YtfkfpeiocdjniaaEnP
namespace Go.Proofs.Ytfkfpeiocdjniaa.Ec
open Go.RowKit Go.Proofs.Ytfkfpeiocdjniaa.PAll Go.Proofs.YtfkfpeiocdjniaaW.PrintWords Go.Proofs.YtfkfpeiocdjniaaW.PrintLast Go.Proofs.YtfkfpeiocdjniaaW.PrintMore Go.Proofs.Ytfkfpeiocdjniaa.Math Go.Proofs.Ytfkfpeiocdjniaa
set_option linter.unusedVariables false
set_option linter.unusedSimpArgs false
def okL (l : List Int) : Bool := decide (l.length = 64 ∧ rd l 2 ≤ 48) && (mayB (nmOf l) (inoOf l) && decide (encL (nmOf l) (inoOf l) = l))
def decR (l : List Int) : ByteArray × Int × Int := if okL l = true then (nmOf l, inoOf l, 0) else ((⟨#[]⟩ : ByteArray), 0, 2)
theorem Decode_f (l : List Int) (ho : Oct l) : Ev (fun k => entry_Decode.f k l) (decR l) := by
  unfold entry_Decode.f decR okL
  simp only [if_pos (wfb_of ho)]
  by_cases c : l.length = 64 ∧ rd l 2 ≤ 48
  · simp only [if_pos c, decide_eq_true c, Bool.true_and]
    refine Ev.bind (Encode_f (nmOf l) (inoOf l)) ?_
    cases hm : mayB (nmOf l) (inoOf l)
    · exact Ev.now _
    · simp only [if_true, Bool.true_and]
      refine Ev.bind (eq0_f (encL (nmOf l) (inoOf l)) l (by rw [enc_length]; decide)) ?_
      cases decide (encL (nmOf l) (inoOf l) = l) <;> exact Ev.now _
  · simp only [if_neg c, decide_eq_false c, Bool.false_and]
    exact Ev.now _
theorem bt_str {l : List Int} (ho : Oct l) (i : Nat) (hi : i < l.length) : bt (strOfNums l) (i : Int) = rd l (i : Int) := by
  rw [bt_nb _ i (by rw [str_size]; exact hi), nb_str l ho, nats_get]
  have := getD_oct ho i
  unfold rd
  rw [Int.toNat_natCast]
  omega
theorem str_cut (l : List Int) (n : Nat) : (strOfNums l).extract 4 n = strOfNums ((l.take n).drop 4) := by
  apply toList_inj
  rw [toList_data, toList_data, strOfNums_data, ByteArray.data_extract, Array.toList_extract, List.extract_eq_take_drop, strOfNums_data, List.map_drop, List.map_take, List.drop_take]
theorem rDecode_f (l : List Int) (ho : Oct l) : Ev (fun k => cantleref08_Decode.f k (strOfNums l)) ((decR l).1, (decR l).2.1, okL l) := by
  have hn : Ev (fun k => cantleref08_Decode.j0 k (strOfNums l) true) ((⟨#[]⟩ : ByteArray), 0, false) := Ev.step (f := fun _ => some _) (fun k => by simp [cantleref08_Decode.j0]) (Ev.now _)
  by_cases hl : l.length = 64
  · have hs : (strOfNums l).size = 64 := by rw [str_size, hl]
    have b0 := bt_str ho 0 (by omega)
    have b1 := bt_str ho 1 (by omega)
    have b2 := bt_str ho 2 (by omega)
    have r0 := getD_oct ho 0
    have r1 := getD_oct ho 1
    have r2 := getD_oct ho 2
    have e0 : rd l ((0 : Nat) : Int) = l.getD 0 0 := rfl
    have e1 : rd l ((1 : Nat) : Int) = l.getD 1 0 := rfl
    have e2 : rd l ((2 : Nat) : Int) = l.getD 2 0 := rfl
    by_cases h48 : rd l 2 ≤ 48
    · have e2' : rd l 2 = l.getD 2 0 := rfl
      have e0' : rd l 0 = l.getD 0 0 := rfl
      have e1' : rd l 1 = l.getD 1 0 := rfl
      have b0' : bt (strOfNums l) 0 = rd l 0 := b0
      have b1' : bt (strOfNums l) 1 = rd l 1 := b1
      have b2' : bt (strOfNums l) 2 = rd l 2 := b2
      have hnm : (strOfNums l).extract 4 (4 + (rd l 2).toNat) = nmOf l := str_cut l _
      have h42 : (4 + rd l 2).toNat = 4 + (rd l 2).toNat := by omega
      have hj : Ev (fun k => cantleref08_Decode.j0 k (strOfNums l) false) ((decR l).1, (decR l).2.1, okL l) := by
        refine Ev.step (f := fun k => (cantleref08_May.f k (nmOf l) (inoOf l)).bind fun t139 => if t139 = true then ((cantleref08_Encode.f k (nmOf l) (inoOf l)).bind fun t140 => if t140.toList = (strOfNums l).toList then some (nmOf l, inoOf l, true) else some ((⟨#[]⟩ : ByteArray), 0, false)) else some ((⟨#[]⟩ : ByteArray), 0, false)) (fun k => ?_) ?_
        · simp only [cantleref08_Decode.j0]
          rw [if_neg (by simp), b0', b1', b2', w64 (n := rd l 2) (by omega) (by omega), w64 (n := 4 + rd l 2) (by omega) (by omega), w64 (n := rd l 0) (by omega) (by omega), w64 (n := rd l 1) (by omega) (by omega), w64 (n := 256 * rd l 1) (by omega) (by omega), w64 (n := rd l 0 + 256 * rd l 1) (by omega) (by omega), h42, hnm]
          rw [if_pos (by omega), if_pos (by omega), if_pos (by omega), if_pos (by omega), if_pos (by omega)]
          rfl
        · refine Ev.bind (rMay_f _ _) ?_
          unfold decR okL
          rw [decide_eq_true ⟨hl, h48⟩, Bool.true_and]
          cases hm : mayB (nmOf l) (inoOf l)
          · exact Ev.now _
          · simp only [if_true, Bool.true_and]
            refine Ev.bind (rEncode_f _ _ hm) ?_
            by_cases he : encL (nmOf l) (inoOf l) = l
            · rw [he, if_pos rfl, decide_eq_true rfl]
              exact Ev.now _
            · rw [if_neg (fun h => he (str_inj (enc_oct _ _) ho (toList_inj h))), decide_eq_false he]
              exact Ev.now _
      refine Ev.congr (fun k => ?_) hj
      unfold cantleref08_Decode.f
      rw [if_pos (by omega), if_pos (by omega), b2', decide_eq_false (by omega)]
    · have hk : okL l = false := by unfold okL; rw [decide_eq_false (fun h => h48 h.2)]; rfl
      unfold decR
      rw [hk, if_neg (by simp)]
      refine Ev.congr (fun k => ?_) hn
      unfold cantleref08_Decode.f
      have b2' : bt (strOfNums l) 2 = rd l 2 := b2
      rw [if_pos (by omega), if_pos (by omega), b2', decide_eq_true (by omega)]
  · have hk : okL l = false := by unfold okL; rw [decide_eq_false (fun h => hl h.1)]; rfl
    unfold decR
    rw [hk, if_neg (by simp)]
    refine Ev.congr (fun k => ?_) hn
    unfold cantleref08_Decode.f
    rw [if_neg (by rw [str_size]; omega)]
/-! ### what is encoded is decoded -/
theorem enc_rd (s : ByteArray) (x : Int) (i : Nat) (hi : i < 60) : rd (encL s x) (i : Int) = baseF s x i := by
  unfold rd encL
  rw [Int.toNat_natCast, List.getD_eq_getElem?_getD, List.getElem?_append_left (by rw [base_length]; exact hi), base_get s x i hi]
  rfl
theorem enc_nm (s : ByteArray) (x : Int) (hs : s.size ≤ 48) : nmOf (encL s x) = s := by
  have h2 : rd (encL s x) 2 = (s.size : Int) := by
    have := enc_rd s x 2 (by decide)
    rw [show ((2 : Nat) : Int) = 2 from rfl] at this
    rw [this]; unfold baseF; rw [if_neg (by decide), if_neg (by decide), if_pos rfl]; omega
  unfold nmOf
  rw [h2, Int.toNat_natCast]
  unfold encL
  rw [base_eq s x hs, List.append_assoc, List.append_assoc, List.take_append, List.drop_append]
  simp only [List.length_cons, List.length_nil]
  rw [show (0 + 1 + 1 + 1 + 1 : Nat) = 4 from rfl, List.take_of_length_le (by simp), show 4 + s.size - 4 = s.size from by omega]
  rw [show List.drop 4 [x % 256, x / 256 % 256, (s.size : Int) % 256, 0] = [] from rfl]
  simp only [List.nil_append, List.length_cons, List.length_nil]
  rw [show 4 - (0 + 1 + 1 + 1 + 1) = 0 from rfl, List.drop_zero, List.take_append_of_le_length (by rw [bys_length]; exact Nat.le_refl _), List.take_of_length_le (by rw [bys_length]; exact Nat.le_refl _), str_bys]
theorem enc_ino (s : ByteArray) (x : Int) (h0 : 0 ≤ x) (h1 : x < 65536) : inoOf (encL s x) = x := by
  unfold inoOf
  have a := enc_rd s x 0 (by decide)
  have b := enc_rd s x 1 (by decide)
  rw [show ((0 : Nat) : Int) = 0 from rfl] at a
  rw [show ((1 : Nat) : Int) = 1 from rfl] at b
  rw [a, b]
  unfold baseF
  rw [if_pos rfl, if_neg (by decide), if_pos rfl]
  omega
theorem ok_enc {s : ByteArray} {x : Int} (h : mayB s x = true) : okL (encL s x) = true := by
  obtain ⟨h1, h2, h3⟩ := may_range h
  have e2 := enc_rd s x 2 (by decide)
  rw [show ((2 : Nat) : Int) = 2 from rfl] at e2
  unfold okL
  rw [enc_nm s x h1, enc_ino s x h2 (by omega), h, decide_eq_true rfl, decide_eq_true ⟨enc_length s x, by rw [e2]; unfold baseF; rw [if_neg (by decide), if_neg (by decide), if_pos rfl]; omega⟩]
  rfl
theorem dec_enc {s : ByteArray} {x : Int} (h : mayB s x = true) : decR (encL s x) = (s, x, 0) := by
  obtain ⟨h1, h2, h3⟩ := may_range h
  unfold decR
  rw [if_pos (ok_enc h), enc_nm s x h1, enc_ino s x h2 (by omega)]
theorem few_f (s : ByteArray) (x : Int) : Ev (fun k => cantlelaw08_few.f k [(⟨s, x⟩ : S33)]) (decide (s.size ≤ 100)) := by
  unfold cantlelaw08_few.f
  have e : (rd_T33 [(⟨s, x⟩ : S33)] 0).f0 = s := rfl
  by_cases h : s.size ≤ 100
  · rw [decide_eq_true h]
    refine Ev.step (f := fun k => cantlelaw08_few.l0 k [(⟨s, x⟩ : S33)] [(⟨s, x⟩ : S33)] 1 1) (fun k => ?_) ?_
    · simp only [cantlelaw08_few.l0, List.length_cons, List.length_nil, e]
      rw [if_pos (by decide), if_pos (by decide), if_pos (by decide), if_neg (by omega), w64 (n := 0 + 1) (by decide) (by decide)]
      rfl
    · refine Ev.step (f := fun _ => some true) (fun k => ?_) (Ev.now _)
      simp only [cantlelaw08_few.l0]
      rw [if_neg (by decide)]
      rfl
  · rw [decide_eq_false h]
    refine Ev.step (f := fun _ => some false) (fun k => ?_) (Ev.now _)
    simp only [cantlelaw08_few.l0, List.length_cons, List.length_nil, e]
    rw [if_pos (by decide), if_pos (by decide), if_pos (by decide), if_pos (by omega)]
theorem lives_f : Ev (fun k => cantlelaw08_Lives.f k) true := Ev.of (fun k => cantlelaw08_Lives.mono k) (k := 100) (by decide +kernel)
end Go.Proofs.Ytfkfpeiocdjniaa.Ec
