/- EntryTurned: that what the walk computes is true. Conditions: as each lemma says. -/
import Derived.Test.YtfkfpeiocdjniaaEnQ
import Derived.Test.YtfkfpeiocdjniaaPAllx11
namespace Go.Proofs.Ytfkfpeiocdjniaa.Ec
open Go.RowKit Go.Proofs.Ytfkfpeiocdjniaa.PAll Go.Proofs.YtfkfpeiocdjniaaW.PrintWords Go.Proofs.YtfkfpeiocdjniaaW.PrintLast Go.Proofs.YtfkfpeiocdjniaaW.PrintMore Go.Proofs.Ytfkfpeiocdjniaa.Math Go.Proofs.Ytfkfpeiocdjniaa
set_option linter.unusedVariables false
set_option linter.unusedSimpArgs false
theorem xor8 (x : Int) (j : Nat) (h : 0 ≤ x ∧ x < 256) (hj : j < 8) : Go.bits .xor .u8 x (shl .u8 1 (j : Int)) = fb x j := by
  obtain ⟨n, rfl⟩ := Int.eq_ofNat_of_zero_le h.1
  have hp : 2 ^ j < 2 ^ 8 := Nat.pow_lt_pow_right (by decide) hj
  have e : shl .u8 1 (j : Int) = ((2 ^ j : Nat) : Int) := by
    obtain rfl | rfl | rfl | rfl | rfl | rfl | rfl | rfl : j = 0 ∨ j = 1 ∨ j = 2 ∨ j = 3 ∨ j = 4 ∨ j = 5 ∨ j = 6 ∨ j = 7 := by omega
    all_goals decide
  rw [e, Math.bits_xor .u8 rfl n (2 ^ j) (by show n < 2 ^ 8; omega) hp]
  unfold fb
  rw [Int.toNat_natCast]
theorem set_flip (C : List Int) (ho : Oct C) (hl : C.length = 64) (p : Nat) (hp : p < 512) : C.set ((wrap64 (Int.tdiv (p : Int) 8)) : Int).toNat (Go.bits .xor .u8 (rd C (wrap64 (Int.tdiv (p : Int) 8))) (shl .u8 1 (Int.tmod (p : Int) 8))) = flipB C (p / 8) (p % 8) := by
  have e1 : Int.tdiv (p : Int) 8 = ((p / 8 : Nat) : Int) := by rw [Int.tdiv_eq_ediv_of_nonneg (by omega)]; omega
  have e2 : Int.tmod (p : Int) 8 = ((p % 8 : Nat) : Int) := by rw [Int.tmod_eq_emod_of_nonneg (by omega)]; omega
  rw [e1, e2, w64 (n := ((p / 8 : Nat) : Int)) (by omega) (by omega)]
  unfold rd flipB
  rw [Int.toNat_natCast, xor8 _ _ (getD_oct ho _) (by omega)]
/-- What the list is, behind i rounds. -/
structure InvE (b : List Int) (f i : Nat) (C : List Int) : Prop where
  len : C.length = 64
  oct : Oct C
  same : ∀ p, (p < f ∨ f + i ≤ p ∨ 480 ≤ p) → bl C p = bl b p
theorem InvE.start {b : List Int} (h : Oct b) (hl : b.length = 64) (f : Nat) : InvE b f 0 b := ⟨hl, h, fun _ _ => rfl⟩
theorem InvE.skip {b : List Int} {f i : Nat} {C : List Int} (h : InvE b f i C) : InvE b f (i + 1) C := ⟨h.len, h.oct, fun p hp => h.same p (by omega)⟩
theorem InvE.flip {b : List Int} {f i : Nat} {C : List Int} (h : InvE b f i C) (hk : f + i < 480) : InvE b f (i + 1) (flipB C ((f + i) / 8) ((f + i) % 8)) := by
  refine ⟨by rw [flipB_length, h.len], flipB_oct h.oct _ _ (by omega), fun p hp => ?_⟩
  rw [bl_flip C (f + i) p (by rw [h.len]; omega), decide_eq_false (by omega)]
  simpa using h.same p (by omega)
theorem sums_inj {a b : Int} (ha : 0 ≤ a ∧ a < 4294967296) (hb : 0 ≤ b ∧ b < 4294967296) (h : sums a = sums b) : a = b := by
  simp only [sums, List.cons.injEq, and_true] at h
  omega
theorem getD_bl {C b : List Int} (hC : Oct C) (hb : Oct b) (q : Nat) (h : ∀ j, j < 8 → bl C (8 * q + j) = bl b (8 * q + j)) : C.getD q 0 = b.getD q 0 := by
  have h1 := getD_oct hC q
  have h2 := getD_oct hb q
  have e : (C.getD q 0).toNat = (b.getD q 0).toNat := by
    apply Nat.eq_of_testBit_eq
    intro j
    by_cases hj : j < 8
    · have := h j hj
      unfold bl at this
      rwa [show (8 * q + j) / 8 = q from by omega, show (8 * q + j) % 8 = j from by omega] at this
    · have e8 : ∀ n : Nat, n < 256 → n.testBit j = false := fun n hn => Nat.testBit_lt_two_pow (Nat.lt_of_lt_of_le (show n < 2 ^ 8 from hn) (Nat.pow_le_pow_right (by decide) (by omega : 8 ≤ j)))
      rw [e8 _ (by omega), e8 _ (by omega)]
  omega
theorem app_ext {A A' B B' : List Int} (h1 : A.length = B.length) (h2 : A'.length = B'.length) (hA : ∀ q, q < A.length → (A ++ A').getD q 0 = (B ++ B').getD q 0) : A = B := by
  apply List.ext_getElem h1
  intro i a b
  have := hA i a
  rw [List.getD_eq_getElem?_getD, List.getD_eq_getElem?_getD, List.getElem?_append_left a, List.getElem?_append_left b, List.getElem?_eq_getElem a, List.getElem?_eq_getElem b] at this
  simpa using this
theorem app_ext' {A A' B B' : List Int} (h1 : A.length = B.length) (h2 : A'.length = B'.length) (hA : ∀ q, q < A'.length → (A ++ A').getD (A.length + q) 0 = (B ++ B').getD (A.length + q) 0) : A' = B' := by
  apply List.ext_getElem h2
  intro i a b
  have := hA i a
  rw [List.getD_eq_getElem?_getD, List.getD_eq_getElem?_getD, List.getElem?_append_right (by omega), List.getElem?_append_right (by omega), h1, Nat.add_sub_cancel_left, List.getElem?_eq_getElem a, List.getElem?_eq_getElem b] at this
  simpa using this
/-- Turned is told. -/
theorem turned {s : ByteArray} {x : Int} {C : List Int} (hl : C.length = 64) (ho : Oct C)
    (h : (∀ q, q < 60 → C.getD q 0 = (encL s x).getD q 0) ∨ ∃ f, ∀ p, (p < f ∨ f + 32 ≤ p ∨ 480 ≤ p) → bl C p = bl (encL s x) p) (hne : C ≠ encL s x) : okL C = false := by
  rcases hc : okL C with _ | _
  · rfl
  exfalso
  unfold okL at hc
  rw [Bool.and_eq_true, Bool.and_eq_true] at hc
  have he := of_decide_eq_true hc.2.2
  generalize nmOf C = n at he
  generalize inoOf C = y at he
  have hb := base_length n y
  have hb' := base_length s x
  rcases h with h | ⟨f, h⟩
  · have e : base n y = base s x := app_ext (A' := sums (S32 (base n y))) (B' := sums (S32 (base s x))) (by rw [hb, hb']) (by simp [sums]) (fun q hq => by
      have := h q (by omega)
      rw [← he] at this
      exact this)
    exact hne (by rw [← he]; unfold encL; rw [e])
  · have e : sums (S32 (base n y)) = sums (S32 (base s x)) := app_ext' (A := base n y) (B := base s x) (by rw [hb, hb']) (by simp [sums]) (fun q hq => by
      have := getD_bl ho (enc_oct s x) (60 + q) (fun j hj => h _ (by omega))
      rw [← he] at this
      rw [hb]
      exact this)
    have e2 := sums_inj (S32_range _) (S32_range _) e
    by_cases e3 : base n y = base s x
    · exact hne (by rw [← he]; unfold encL; rw [e3])
    · refine burst32 (A := base n y) (B := base s x) f (by rw [hb, hb']) (base_oct _ _) (base_oct _ _) (fun p hp => ?_) e3 e2
      by_cases h480 : p < 480
      · have := h p (by omega)
        rw [← he] at this
        unfold bl encL at this
        rw [List.getD_eq_getElem?_getD, List.getD_eq_getElem?_getD, List.getElem?_append_left (by rw [hb]; omega), List.getElem?_append_left (by rw [hb']; omega)] at this
        unfold bl
        rw [List.getD_eq_getElem?_getD, List.getD_eq_getElem?_getD]
        exact this
      · unfold bl
        rw [List.getD_eq_getElem?_getD, List.getD_eq_getElem?_getD, List.getElem?_eq_none (by rw [hb]; omega), List.getElem?_eq_none (by rw [hb']; omega)]
/-! ### the name -/
def gch (y : Int) : Int := (97 + (Int.tmod y 26)) % 256
theorem gch_range (y : Int) (h : 0 ≤ y) : 97 ≤ gch y ∧ gch y ≤ 122 := by
  unfold gch
  rw [Int.tmod_eq_emod_of_nonneg h]
  omega
theorem name_may (l : List Int) (ho : Oct l) (h0 : l.length ≠ 0) (h48 : l.length ≤ 48) (x : Int) (hx : 0 ≤ x ∧ x < 65534) : mayB (strOfNums (l.map gch)) x = true := by
  have hb : ∀ b ∈ (strOfNums (l.map gch)).data.toList, 97 ≤ b.toNat := by
    intro b hb
    rw [strOfNums_data, List.map_map] at hb
    obtain ⟨y, hy, rfl⟩ := List.mem_map.1 hb
    have := gch_range y (ho y hy).1
    show 97 ≤ (UInt8.ofNat (gch y).toNat).toNat
    rw [UInt8.toNat_ofNat']
    omega
  have hs : (strOfNums (l.map gch)).size = l.length := by rw [str_size, List.length_map]
  unfold mayB rightB
  rw [decide_eq_true hx, hs, decide_eq_true ⟨h0, h48⟩, toList_data]
  have n1 : ((strOfNums (l.map gch)).data.toList == [46]) = false := by
    rw [beq_eq_false_iff_ne]; intro e
    have := hb 46 (by rw [e]; simp)
    exact absurd this (by decide)
  have n2 : ((strOfNums (l.map gch)).data.toList == [46, 46]) = false := by
    rw [beq_eq_false_iff_ne]; intro e
    have := hb 46 (by rw [e]; simp)
    exact absurd this (by decide)
  have n3 : Ca.bad (strOfNums (l.map gch)) = false := by
    unfold Ca.bad
    rw [List.any_eq_false]
    intro b hbm
    have := hb b hbm
    intro e
    rw [Bool.or_eq_true, beq_iff_eq, beq_iff_eq] at e
    rcases e with rfl | rfl
    · exact absurd this (by decide)
    · exact absurd this (by decide)
  rw [n1, n2, n3]
  rfl
/-! ### the end -/
theorem end_ev {s : ByteArray} {x : Int} (hm : mayB s x = true) {C : List Int} (hl : C.length = 64) (ho : Oct C)
    (h : (∀ q, q < 60 → C.getD q 0 = (encL s x).getD q 0) ∨ ∃ f, ∀ p, (p < f ∨ f + 32 ≤ p ∨ 480 ≤ p) → bl C p = bl (encL s x) p) :
    Ev (fun k => (entry_Decode.f k C).bind fun bt210 => (if (strOfNums C).toList = (strOfNums (encL s x)).toList then (if bt210.2.2 = 0 then (some (bt210.1.toList == s.toList)) else (some false)) else (if bt210.2.2 = 2 then (some (bt210.1.toList == ([] : List UInt8) && (bt210.2.1 == 0))) else (some false)))) true := by
  refine Ev.bind (Decode_f C ho) ?_
  by_cases e : C = encL s x
  · subst e
    rw [dec_enc hm]
    simp only [if_true, beq_self_eq_true]
    exact Ev.now _
  · have hk := turned hl ho h e
    have hd : decR C = ((⟨#[]⟩ : ByteArray), 0, 2) := by unfold decR; rw [hk]; rfl
    rw [hd]
    simp only [if_neg (fun h => e (str_inj ho (enc_oct _ _) (toList_inj h)))]
    exact Ev.congr (f := fun _ => some true) (fun k => by rw [if_pos trivial, toList_data]; rfl) (Ev.now _)
theorem l1_ev {s : ByteArray} {x : Int} (hm : mayB s x = true) (a3 : Int) (h3 : 0 ≤ a3 ∧ a3 < 4294967296) (f : Nat) (hf : f < 480) : ∀ (d i : Nat) (C : List Int), i + d = 32 → InvE (encL s x) f i C →
    Ev (fun k => cantlelaw08_EntryTurned.l1 k a3 s C (strOfNums (encL s x)) (f : Int) (i : Int)) true
  | 0, i, C, hd, hI => by
    refine Ev.step (fun k => ?_) (end_ev hm hI.len hI.oct (.inr ⟨f, fun p hp => hI.same p (by omega)⟩))
    simp only [cantlelaw08_EntryTurned.l1]
    rw [if_neg (by omega)]
  | d + 1, i, C, hd, hI => by
    have ih1 := l1_ev hm a3 h3 f hf d (i + 1) C (by omega) hI.skip
    have e1 : ((i + 1 : Nat) : Int) = (i : Int) + 1 := by omega
    have e2 : (f : Int) + (i : Int) = ((f + i : Nat) : Int) := by omega
    rw [e1] at ih1
    by_cases h480 : f + i < 480
    · by_cases hb : Go.bits .and .u32 (shr .u32 a3 (i : Int)) 1 = 1
      · have ih2 := l1_ev hm a3 h3 f hf d (i + 1) _ (by omega) (hI.flip h480)
        rw [e1] at ih2
        refine Ev.step (fun k => ?_) ih2
        simp only [cantlelaw08_EntryTurned.l1]
        rw [e2, w64 (n := ((f + i : Nat) : Int)) (by omega) (by omega), if_pos (by omega), if_pos (by omega), if_pos (by omega), if_pos hb, set_flip C hI.oct hI.len (f + i) (by omega), w64 (n := (i : Int) + 1) (by omega) (by omega)]
        have t1 : Int.tdiv ((f + i : Nat) : Int) 8 = (((f + i) / 8 : Nat) : Int) := by rw [Int.tdiv_eq_ediv_of_nonneg (by omega)]; omega
        have t2 : Int.tmod ((f + i : Nat) : Int) 8 = (((f + i) % 8 : Nat) : Int) := by rw [Int.tmod_eq_emod_of_nonneg (by omega)]; omega
        rw [t1, t2, w64 (n := (((f + i) / 8 : Nat) : Int)) (by omega) (by omega), if_pos (by omega), if_pos (by rw [hI.len]; omega), if_pos (by omega)]
      · refine Ev.step (fun k => ?_) ih1
        simp only [cantlelaw08_EntryTurned.l1]
        rw [e2, w64 (n := ((f + i : Nat) : Int)) (by omega) (by omega), if_pos (by omega), if_pos (by omega), if_pos (by omega), if_neg hb, w64 (n := (i : Int) + 1) (by omega) (by omega)]
    · refine Ev.step (fun k => ?_) ih1
      simp only [cantlelaw08_EntryTurned.l1]
      rw [e2, w64 (n := ((f + i : Nat) : Int)) (by omega) (by omega), if_pos (by omega), if_neg (by omega), w64 (n := (i : Int) + 1) (by omega) (by omega)]
theorem j2_ev {s : ByteArray} {x : Int} (hm : mayB s x = true) (a2 a3 : Int) (h2 : 0 ≤ a2 ∧ a2 < 65536) (h3 : 0 ≤ a3 ∧ a3 < 4294967296) :
    Ev (fun k => cantlelaw08_EntryTurned.j2 k a2 a3 s (encL s x) false) true := by
  obtain ⟨f, hf⟩ : ∃ f : Nat, a2 % 512 = (f : Int) := Int.eq_ofNat_of_zero_le (Int.emod_nonneg _ (by omega))
  have hf5 : f < 512 := by omega
  have e1 : wrap64 (Int.tmod a2 512) = (f : Int) := by rw [Int.tmod_eq_emod_of_nonneg h2.1, hf, w64 (by omega) (by omega)]
  by_cases h480 : 480 ≤ f
  · have hl := enc_length s x
    have t1 : Int.tdiv (f : Int) 8 = ((f / 8 : Nat) : Int) := by rw [Int.tdiv_eq_ediv_of_nonneg (by omega)]; omega
    have t2 : Int.tmod (f : Int) 8 = ((f % 8 : Nat) : Int) := by rw [Int.tmod_eq_emod_of_nonneg (by omega)]; omega
    refine Ev.step (fun k => ?_) (end_ev (C := flipB (encL s x) (f / 8) (f % 8)) hm (by rw [flipB_length, hl]) (flipB_oct (enc_oct s x) _ _ (by omega)) (.inl fun q hq => ?_))
    · simp only [cantlelaw08_EntryTurned.j2]
      rw [e1, if_neg (by simp), if_pos (by omega), set_flip _ (enc_oct s x) hl f hf5, t1, t2, w64 (n := ((f / 8 : Nat) : Int)) (by omega) (by omega), if_pos (by omega), if_pos (by rw [hl]; omega), if_pos (by omega)]
      rfl
    · unfold flipB
      rw [List.getD_eq_getElem?_getD, List.getElem?_set, if_neg (by omega), ← List.getD_eq_getElem?_getD]
  · refine Ev.step (fun k => ?_) (l1_ev hm a3 h3 f (by omega) 32 0 (encL s x) (by omega) (InvE.start (enc_oct s x) (enc_length s x) f))
    simp only [cantlelaw08_EntryTurned.j2]
    rw [e1, if_neg (by simp), if_neg (by omega)]
    rfl
theorem l0_ev (a0 a2 a3 : Int) (h0 : 0 ≤ a0 ∧ a0 < 65536) (h2 : 0 ≤ a2 ∧ a2 < 65536) (h3 : 0 ≤ a3 ∧ a3 < 4294967296) (hn : ∀ (l : List Int), l.length ≠ 0 → l.length ≤ 48 → Oct l → mayB (strOfNums (l.map gch)) (a0 % 65534) = true) :
    ∀ (r p : List Int), Oct (p ++ r) → (p ++ r).length ≠ 0 → (p ++ r).length ≤ 48 → Ev (fun k => cantlelaw08_EntryTurned.l0 k a0 a2 a3 (strOfNums (p.map gch)) (p ++ r) ((p ++ r).length : Int) (p.length : Int)) true
  | [], p, ho, hz, hl => by
    rw [List.append_nil] at ho hz hl ⊢
    have hm := hn p hz hl ho
    have he := Encode_f (strOfNums (p.map gch)) (a0 % 65534)
    rw [hm, if_pos rfl] at he
    have hi : Int.tmod (wrap64 a0) 65534 = a0 % 65534 := by rw [w64 (by omega) (by omega), Int.tmod_eq_emod_of_nonneg h0.1]
    refine Ev.step (fun k => ?_) (Ev.bind he (f := fun k bt198 => if bt198.2 = 0 then (cantlelaw08_EntryTurned.j2 k a2 a3 (strOfNums (p.map gch)) bt198.1 ((bt198.1.length : Int) != 64)) else (cantlelaw08_EntryTurned.j2 k a2 a3 (strOfNums (p.map gch)) bt198.1 true)) ?_)
    · simp only [cantlelaw08_EntryTurned.l0]
      rw [if_neg (by omega), hi]
    · have := j2_ev hm a2 a3 h2 h3
      refine Ev.congr (fun k => ?_) this
      simp only [if_true]
      rw [show (((encL (strOfNums (p.map gch)) (a0 % 65534)).length : Int) != 64) = false by rw [enc_length]; rfl]
  | y :: r, p, ho, hz, hl => by
    have ih := l0_ev a0 a2 a3 h0 h2 h3 hn r (p ++ [y]) (by simpa using ho) (by simp) (by simpa using hl)
    rw [show p ++ [y] ++ r = p ++ y :: r by simp, List.map_append, str_append] at ih
    have hlen : (p ++ y :: r).length = p.length + r.length + 1 := by simp; omega
    rw [hlen] at ih hl
    rw [show ((p ++ [y]).length : Int) = (p.length : Int) + 1 by simp] at ih
    refine Ev.step (fun k => ?_) ih
    simp only [cantlelaw08_EntryTurned.l0, hlen, rd_mid]
    rw [if_pos (by omega), if_pos (by omega), if_pos (by omega)]
    simp only [Option.bind_some]
    rw [if_pos (by rw [str_size, str_size]; simp; omega), w64 (n := (p.length : Int) + 1) (by omega) (by omega)]
    rfl
end Go.Proofs.Ytfkfpeiocdjniaa.Ec
namespace Go.Proofs.Ytfkfpeiocdjniaa.Pure
open Go.RowKit Go.Proofs.Ytfkfpeiocdjniaa.PAll Go.Proofs.YtfkfpeiocdjniaaW.PrintWords Go.Proofs.YtfkfpeiocdjniaaW.PrintLast Go.Proofs.YtfkfpeiocdjniaaW.PrintMore Go.Proofs.Ytfkfpeiocdjniaa.Math Go.Proofs.Ytfkfpeiocdjniaa Go.Proofs.Ytfkfpeiocdjniaa.Ec
theorem EntryTurned : cantlelaw08_EntryTurned.Pure := by
  intro a0 l a2 a3 w0 _ _ wl w2 w3
  have h0 := Math.wf_u16 w0
  have h2 := Math.wf_u16 w2
  have h3 := Math.wf_u32 w3
  have ho : Oct l := fun y hy => Math.wf_u8 (wl y hy)
  have hj : Ev (fun k => cantlelaw08_EntryTurned.j0 k a0 l a2 a3 true) true := by
    refine Ev.step (f := fun k => (cantlelaw08_Lives.f k).bind fun t193 => some t193) (fun k => ?_) (Ev.bind lives_f (Ev.now _))
    simp [cantlelaw08_EntryTurned.j0]
  suffices h : Ev (fun k => cantlelaw08_EntryTurned.f k a0 l a2 a3) true by
    obtain ⟨k, hk⟩ := h
    exact ⟨k, hk k (Nat.le_refl _)⟩
  unfold cantlelaw08_EntryTurned.f
  refine Ev.bind lives_f ?_
  simp only [if_true]
  by_cases hz : l.length = 0
  · simp only [if_pos (show (l.length : Int) = 0 by omega)]
    exact hj
  · simp only [if_neg (show ¬ (l.length : Int) = 0 by omega)]
    by_cases h48 : l.length ≤ 48
    · rw [decide_eq_false (show ¬ (l.length : Int) > 48 by omega)]
      have := l0_ev a0 a2 a3 h0 h2 h3 (fun l h1 h2 h3 => name_may l h3 h1 h2 _ ⟨Int.emod_nonneg _ (by decide), Int.emod_lt_of_pos _ (by decide)⟩) l [] (by simpa using ho) (by simpa using hz) (by simpa using h48)
      refine Ev.step (fun k => ?_) this
      simp only [cantlelaw08_EntryTurned.j0]
      rw [if_neg (by simp)]
      rfl
    · rw [decide_eq_true (show (l.length : Int) > 48 by omega)]
      exact hj
end Go.Proofs.Ytfkfpeiocdjniaa.Pure
