/- entry.Join: the walk. Conditions: as each lemma says. -/
import Derived.Test.YtfkfpeiocdjniaaRfW
import Derived.Test.YtfkfpeiocdjniaaPAllx4
namespace Go.Proofs.Ytfkfpeiocdjniaa.PAll
open Go.RowKit Go.Proofs.YtfkfpeiocdjniaaW.PrintWords Go.Proofs.YtfkfpeiocdjniaaW.PrintLast Go.Proofs.YtfkfpeiocdjniaaW.PrintMore
set_option linter.unusedVariables false
set_option linter.unusedSimpArgs false
def joinF (enc : S33 → List Int × Int) : List Int → List S33 → List Int × Int
  | out, [] => (out, 0)
  | out, x :: r => if (enc x).2 = 0 then joinF enc (out ++ (enc x).1) r else ([], (enc x).2)
def joinR (enc : S33 → List Int × Int) (l : List S33) : List Int × Int := if dupFrom [] (nms l) = true then ([], 1) else joinF enc [] l
set_option maxRecDepth 100000 in
set_option maxHeartbeats 8000000 in
theorem join_calls (k : Nat) (enc : S33 → List Int × Int) (A : Option Addr) (c : Nat) (l : List S33) (w0 : World) (hC : Kd.C k33 w0 A l.length l) (hc : l.length ≤ c) (hs : ∀ x ∈ l, x.f0.size ≤ 1000) (hl : l.length ≤ 1000000)
    (hE : ∀ x ∈ l, entry_Encode.f k x.f0 x.f1 = some (enc x)) (hE2 : ∀ x ∈ l, (enc x).1.length ≤ 64) :
    Calls Try.prog 11 #[.slice A l.length c] w0 fun e w' => ∃ v0, e = .returned (.tuple #[v0, .int .i64 (joinR enc l).2]) ∧ Kd.R (Kd.int .u8) 5 w' w0.heap.size (fun _ => True) v0 (joinR enc l).1 ∧ Below w0.heap.size w0 w' := by
  have HC := Aside0.mk hC
  have HS := Aside0.mk hs
  have HCC := Aside0.mk hc
  have HL := Aside0.mk hl
  have HE := Aside0.mk hE
  have HE2 := Aside0.mk hE2
  clear hC hl hE hE2 hs hc
  obtain ⟨res, hres⟩ : ∃ r, r = joinR enc l := ⟨_, rfl⟩
  rw [← hres]
  have HRES := Aside0.mk hres
  clear hres
  go_enter Try.func11, Try.ntmps11
  go_wp2_with fail
  refine (twice_calls A c l w0 HC.out HCC.out HS.out HL.out).mono ?_
  rintro e w1 ⟨rfl, hb⟩
  have HB1 := Aside0.mk hb
  clear hb
  by_cases hd : dupFrom [] (nms l) = true
  · have hr : res = ([], 1) := by rw [HRES.out]; unfold joinR; rw [if_pos hd]
    subst hr
    rw [hd]
    clear hd
    go_wp2_with fail
    go_ret2
    exact ⟨_, rfl, Kd.R_nil _ _ _ _ _, HB1.out⟩
  · have hd' : dupFrom [] (nms l) = false := by simpa using hd
    have HR := Aside0.mk (show res = joinF enc [] l by rw [HRES.out]; unfold joinR; rw [if_neg hd])
    rw [hd']
    clear hd hd' HRES
    go_wp2_with fail
    go_loopw [4, 13] (fun v4 v13 wr => ∃ (i : Nat) (out : List Int), i ≤ l.length ∧ v13 = .int .i64 (i : Int) ∧ Aside0 (Kd.R (Kd.int .u8) 5 wr w0.heap.size (fun _ => True) v4 out) ∧ Aside0 (Below w0.heap.size w0 wr) ∧ Aside0 (res = joinF enc out (l.drop i)) ∧ Aside0 (out.length ≤ 64 * i)) (fun _ v13 _ => l.length - (intOf v13).toNat)
    case atStart => exact ⟨0, [], Nat.zero_le _, rfl, ⟨Kd.R_nil _ _ _ _ _⟩, HB1, HR, ⟨Nat.le_refl _⟩⟩
    case round =>
      obtain ⟨i, out, hi, rfl, HO, HBi, HRi, HOL⟩ := hrel
      clear HB1 HR
      by_cases hlt : i < l.length
      · have di : decide ((i : Int) < (l.length : Int)) = true := decide_eq_true (by omega)
        obtain ⟨ad, eA, hx0, hx1⟩ := at_T33 (Kd.C_below HC.out HBi.out) (i : Int) (by omega) (by omega)
        subst eA
        rw [rd33 l i hlt] at hx0 hx1
        have hrr := HRi.out
        rw [List.drop_eq_getElem_cons hlt] at hrr
        have he := HE.out l[i] (List.getElem_mem _)
        have he2 := HE2.out l[i] (List.getElem_mem _)
        simp only [joinF] at hrr
        generalize enc l[i] = ec at hrr he he2
        obtain ⟨bs, er⟩ := ec
        generalize (l[i]).f0 = s at hx0 he
        generalize (l[i]).f1 = n at hx1 he
        rw [Int.toNat_natCast] at hx0 hx1
        have HEN := Aside0.mk he
        have HBL := Aside0.mk he2
        have HRR := Aside0.mk hrr
        clear he he2 hrr
        go_wp2_with fail
        have HX := Aside0.mk (heap_alloc_new wr (.cells #[.string s, .int .i64 n] 33))
        have HB2 := Aside0.mk (below_alloc HBi.out (.cells #[.string s, .int .i64 n] 33))
        have HO2 := Aside0.mk (Kd.R_alloc (o := .cells #[.string s, .int .i64 n] 33) HO.out)
        generalize wr.alloc (.cells #[.string s, .int .i64 n] 33) = w2 at HX HB2 HO2 ⊢
        generalize wr.heap.size = g at HX ⊢
        clear hx0 hx1 HBi HO
        refine (entry_Encode.calls k s n bs er _ HEN.out).mono ?_
        rintro e w3 ⟨v3, rfl, hR, hb⟩
        obtain ⟨A3, c3, rfl, hc3, hC3⟩ := Kd.R_reads hR
        have HB3 := Aside0.mk (below_then HB2.out HB2.out.size hb)
        have HO3 := Aside0.mk (Kd.R_below HO2.out hb)
        have HC3 := Aside0.mk hC3
        clear hb hR hc3 hC3 HO2 HB2
        by_cases her : er = 0
        · subst her
          have HRR2 := Aside0.mk (show res = joinF enc (out ++ bs) (l.drop (i + 1)) from HRR.out.trans (if_pos rfl))
          have HLL := Aside0.mk (show (out.length + bs.length) * 1 ≤ 140737488355328 ∧ (out ++ bs).length ≤ 64 * (i + 1) by have h1 := HOL.out; have h2 := HBL.out; have h3 := HL.out; rw [List.length_append]; omega)
          have hi1 : IntKind.i64.wrap ((i : Int) + 1) = ((i + 1 : Nat) : Int) := by rw [i64_w]; exact Math.w64 (by have := HL.out; omega) (by have := HL.out; omega)
          clear HRR
          go_wp2_with (first | ((with_reducible refine gate_builtin (b := .append) (xs := #[.tmp 25, .tmp 26]) rfl ?_); (try (refine gate_guard (by rfl) ?_; dsimp only)); at_builtin; refine Kd.R_append_rows (Kd.int .u8) (w0 := w0) w0.heap.size rfl (.tmp 25) (.tmp 26) 22 5 (.int .u8 0) 1 rfl Try.underlying22 info5' rfl (by decide) (by omega) u4 out bs _ _ _ (fun _ => True) (fun _ => False) rfl rfl ?aO ?aR (fun _ _ h => h) (fun _ h => h.elim) ?aF ?aB ?aS ?aL ?_; (case aR => exact HC3.out); (case aB => exact HB3.out); (case aF => exact (fun _ _ => trivial)); (case aO => exact HO3.out); (case aS => exact (below_size HB3.out)); (case aL => exact HLL.out.1); intro v150 w18 ho hb hg hat; have HB4 := Aside0.mk (hb); have HO4 := Aside0.mk (ho); clear ho hb hg hat))
          go_roundw
          case rel => exact ⟨i + 1, out ++ bs, by omega, rfl, HO4, HB4, HRR2, ⟨HLL.out.2⟩⟩
          case measure => simp [intOf]; omega
        · have hrs : res = ([], er) := HRR.out.trans (if_neg her)
          have d1 : (er == 0) = false := beq_eq_false_iff_ne.mpr her
          have d2 : (er != 0) = true := bne_iff_ne.mpr her
          have HRS := Aside0.mk hrs
          clear her hrs HRR
          go_wp2_with fail
          go_ret2
          exact ⟨_, by rw [HRS.out]; rfl, by rw [HRS.out]; exact Kd.R_nil _ _ _ _ _, HB3.out⟩
      · obtain rfl : i = l.length := by omega
        have di : decide ((l.length : Int) < (l.length : Int)) = false := decide_eq_false (by omega)
        have hrr := HRi.out
        rw [List.drop_length] at hrr
        have HRR := Aside0.mk (show res = (out, 0) from hrr)
        clear hrr
        go_wp2_with fail
        go_ret2
        exact ⟨_, by rw [HRR.out]; rfl, by rw [HRR.out]; exact HO.out, HBi.out⟩
end Go.Proofs.Ytfkfpeiocdjniaa.PAll
