/- entry.twice: the walk. Conditions: as each lemma says. -/
import Derived.Test.YtfkfpeiocdjniaaTwM
namespace Go.Proofs.Ytfkfpeiocdjniaa.PAll
open Go.RowKit Go.Proofs.YtfkfpeiocdjniaaW.PrintWords Go.Proofs.YtfkfpeiocdjniaaW.PrintLast Go.Proofs.YtfkfpeiocdjniaaW.PrintMore
set_option linter.unusedVariables false
set_option linter.unusedSimpArgs false
def dupFrom : List ByteArray → List ByteArray → Bool
  | _, [] => false
  | p, s :: r => if memB s p = true then true else dupFrom (p ++ [s]) r
def nms (l : List S33) : List ByteArray := l.map fun x => x.f0
theorem rd33 (l : List S33) (i : Nat) (h : i < l.length) : rd_T33 l (i : Int) = l[i] := by unfold rd_T33; simp [h]
set_option maxRecDepth 100000 in
set_option maxHeartbeats 8000000 in
theorem twice_calls (A : Option Addr) (c : Nat) (l : List S33) (w0 : World) (hC : Kd.C k33 w0 A l.length l) (hc : l.length ≤ c) (hs : ∀ x ∈ l, x.f0.size ≤ 1000) (hl : l.length ≤ 1000000) :
    Calls Try.prog 25 #[.slice A l.length c, .func (.func 26) #[] #[]] w0 fun e w' => e = .returned (.bool (dupFrom [] (nms l))) ∧ Below w0.heap.size w0 w' := by
  have HC := Aside0.mk hC
  have HS := Aside0.mk hs
  have HL := Aside0.mk hl
  clear hC hc hs hl
  have hmk : ∀ W : World, (Instr.makeMap 63 none).run Try.prog W = .ok (.map (some W.heap.size)) (W.alloc (.map #[] 0)) := fun W => rfl
  go_enter Try.func25, Try.ntmps25
  go_wp2_with fail
  have HM := Aside0.mk (SMap.new w0)
  have HB := Aside0.mk (below_alloc (Below.refl w0.heap.size w0) (.map #[] 0))
  obtain ⟨mb, hmb⟩ : ∃ mb, mb = w0.heap.size := ⟨_, rfl⟩
  have HG := Aside0.mk (Nat.le_of_eq hmb.symm)
  rw [← hmb] at HM
  have hp : Value.map (some w0.heap.size) = Value.map (some mb) := by rw [hmb]
  rw [hp]
  clear hp hmb hmk
  go_loopw [11] (fun v11 wr => ∃ i : Nat, i ≤ l.length ∧ v11 = .int .i64 (i : Int) ∧ Aside0 (SMap wr mb (nms (l.take i))) ∧ Aside0 (Below w0.heap.size w0 wr) ∧ Aside0 (dupFrom (nms (l.take i)) (nms (l.drop i)) = dupFrom [] (nms l))) (fun v11 _ => l.length - (intOf v11).toNat)
  case atStart => exact ⟨0, Nat.zero_le _, rfl, by simpa [nms] using HM, HB, ⟨rfl⟩⟩
  case round =>
    obtain ⟨i, hi, rfl, HMi, HBi, HD⟩ := hrel
    clear HM HB
    by_cases hlt : i < l.length
    · have di : decide ((i : Int) < (l.length : Int)) = true := decide_eq_true (by omega)
      obtain ⟨ad, eA, hx0, hx1⟩ := at_T33 (Kd.C_below HC.out HBi.out) (i : Int) (by omega) (by omega)
      subst eA
      rw [rd33 l i hlt] at hx0 hx1
      have HT := Aside0.mk (show nms (l.take (i + 1)) = nms (l.take i) ++ [(l[i]).f0] by unfold nms; rw [List.take_succ_eq_append_getElem hlt, List.map_append]; rfl)
      have HR := Aside0.mk (show nms (l.drop i) = (l[i]).f0 :: nms (l.drop (i + 1)) by unfold nms; rw [List.drop_eq_getElem_cons hlt]; rfl)
      have HZ := Aside0.mk (HS.out l[i] (List.getElem_mem _))
      generalize (l[i]).f0 = s at hx0 HT HR HZ
      generalize (l[i]).f1 = n at hx1
      rw [Int.toNat_natCast] at hx0 hx1
      have hD := HD.out
      rw [HR.out] at hD
      go_wp2_with fail
      have HX := Aside0.mk (heap_alloc_new wr (.cells #[.string s, .int .i64 n] 33))
      have HB2 := Aside0.mk (below_alloc HBi.out (.cells #[.string s, .int .i64 n] 33))
      have HM2 := Aside0.mk (HMi.out.alloc (.cells #[.string s, .int .i64 n] 33))
      generalize wr.alloc (.cells #[.string s, .int .i64 n] 33) = w2 at HX HB2 HM2 ⊢
      generalize wr.heap.size = g at HX ⊢
      clear hx0 hx1 HMi HBi
      refine (entry_name.calls s n s _ rfl).mono ?_
      rintro e w3 ⟨rfl, hb⟩
      have HX3 := Aside0.mk (blk_below HX.out hb)
      have HB3 := Aside0.mk (below_then HB2.out HB2.out.size hb)
      have HM3 := Aside0.mk (HM2.out.below hb)
      clear hb HX HB2 HM2
      have hlk := HM3.out.look s (by have := HZ.out; unfold maxLen; omega)
      have hq0 : w3.cell? ⟨g, 0, none⟩ = some (.string s) := (blk_cell HX3.out 0).trans rfl
      have hq1 : w3.cell? ⟨g, 1, none⟩ = some (.int .i64 n) := (blk_cell HX3.out 1).trans rfl
      by_cases hm : memB s (nms (l.take i)) = true
      · rw [hm] at hlk
        have hr : dupFrom [] (nms l) = true := by rw [← hD]; simp [dupFrom, hm]
        have HRR := Aside0.mk hr
        clear hr hD hm
        go_wp2_with fail
        go_ret
        exact ⟨by rw [HRR.out]; rfl, HB3.out⟩
      · have hm' : memB s (nms (l.take i)) = false := by simpa using hm
        rw [hm'] at hlk
        have HN := Aside0.mk (show ¬ s ∈ nms (l.take i) from fun h => hm (memB_iff.2 h))
        have HD2 := Aside0.mk (show dupFrom (nms (l.take i) ++ [s]) (nms (l.drop (i + 1))) = dupFrom [] (nms l) by rw [← hD]; simp [dupFrom, hm'])
        clear hD hm hm'
        go_wp2_with fail
        refine (entry_name.calls s n s _ rfl).mono ?_
        rintro e w4 ⟨rfl, hb⟩
        have HB4 := Aside0.mk (below_then HB3.out HB3.out.size hb)
        have HM4 := Aside0.mk (HM3.out.below hb)
        clear hb hlk hq0 hq1 HB3 HM3
        obtain ⟨es, cc, hup, hnew⟩ := HM4.out.upd s (by have := HZ.out; unfold maxLen; omega) HN.out
        have HM5 := Aside0.mk hnew
        have HB5 := Aside0.mk (putMap_below es cc HB4.out HG.out)
        clear hnew
        have hi1 : IntKind.i64.wrap ((i : Int) + 1) = ((i + 1 : Nat) : Int) := by rw [i64_w]; exact Math.w64 (by have := HL.out; omega) (by have := HL.out; omega)
        go_wp2_with fail
        go_roundw
        case rel => exact ⟨i + 1, by omega, rfl, by rw [HT.out]; exact HM5, HB5, by rw [HT.out]; exact HD2⟩
        case measure => simp [intOf]; omega
    · obtain rfl : i = l.length := by omega
      have di : decide ((l.length : Int) < (l.length : Int)) = false := decide_eq_false (by omega)
      have hd := HD.out
      rw [List.drop_length] at hd
      have hr : dupFrom [] (nms l) = false := by rw [← hd]; rfl
      have HRR := Aside0.mk hr
      clear hd hr
      go_wp2_with fail
      go_ret
      exact ⟨by rw [HRR.out]; rfl, HBi.out⟩
end Go.Proofs.Ytfkfpeiocdjniaa.PAll
