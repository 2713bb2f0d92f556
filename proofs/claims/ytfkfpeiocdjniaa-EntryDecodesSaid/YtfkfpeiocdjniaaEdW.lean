/- EntryDecodes: the walk through the law function, by hand. Conditions: as each lemma says. -/
import Derived.Test.YtfkfpeiocdjniaaPAllx1
import Derived.Test.YtfkfpeiocdjniaaPAllx2
import Derived.Test.YtfkfpeiocdjniaaPAllx4
import Derived.Test.YtfkfpeiocdjniaaPAllx5
import Derived.Test.YtfkfpeiocdjniaaPAllx7
import Derived.Test.YtfkfpeiocdjniaaPAllx8
import Derived.Test.YtfkfpeiocdjniaaSpecL
import Derived.Deep.QuietTactic
import Derived.BigQuiet
namespace Go.Proofs.Ytfkfpeiocdjniaa.PAll
open Go.RowKit Go.Proofs.YtfkfpeiocdjniaaW.PrintWords Go.Proofs.YtfkfpeiocdjniaaW.PrintLast Go.Proofs.YtfkfpeiocdjniaaW.PrintMore
set_option linter.unusedVariables false
set_option linter.unusedSimpArgs false
attribute [local go_sem high] eqA32 eqA33
theorem ed_long (k : Nat) (hlv : cantlelaw08_Lives.f k = some true) (w0 : World) (A1 : Option Addr) (c1 : Nat) (b : List Int) (hl : 200 < b.length) :
    Calls Try.prog 6 #[.slice A1 b.length c1] w0 fun e w' => e = .returned (.bool true) ∧ Below w0.heap.size w0 w' := by
  have d : decide (200 < (b.length : Int)) = true := decide_eq_true (by omega)
  have d' : decide ((b.length : Int) > 200) = true := decide_eq_true (by omega)
  have HLV := Aside0.mk hlv
  clear hl hlv
  go_enter Try.func6, Try.ntmps6
  go_wp2_with fail
  refine (cantlelaw08_Lives.calls k true _ HLV.out).mono ?_
  rintro e w1 ⟨rfl, hb⟩
  have HB1 := Aside0.mk hb
  clear hb
  go_wp2_with fail
  refine (cantlelaw08_Lives.calls k true _ HLV.out).mono ?_
  rintro e w2 ⟨rfl, hb⟩
  have HB2 := Aside0.mk (below_then HB1.out HB1.out.size hb)
  clear hb
  go_wp2_with fail
  go_ret
  exact ⟨rfl, HB2.out⟩
set_option maxRecDepth 100000 in
set_option maxHeartbeats 8000000 in
theorem ed_short (k : Nat) (hlv : cantlelaw08_Lives.f k = some true) (w0 : World) (A1 : Option Addr) (c1 : Nat) (b : List Int) (hl : b.length ≤ 200)
    (hr1 : Kd.C (Kd.int .u8) w0 A1 b.length b) (hc1 : b.length ≤ c1) (n : ByteArray) (i e : Int) (is_ : Bool) (f1 : entry_Decode.f k b = some (n, i, e)) (f2 : cantleref08_Decode.f k (strOfNums b) = some (n, i, is_)) (he : e = if is_ then 0 else 2) :
    Calls Try.prog 6 #[.slice A1 b.length c1] w0 fun e w' => e = .returned (.bool true) ∧ Below w0.heap.size w0 w' := by
  have d : decide (200 < (b.length : Int)) = false := decide_eq_false (by omega)
  have d' : decide ((b.length : Int) > 200) = false := decide_eq_false (by omega)
  have HLV := Aside0.mk hlv
  have HL := Aside0.mk hl
  have HR1 := Aside0.mk hr1
  have HC1 := Aside0.mk hc1
  have F1 := Aside0.mk f1
  have F2 := Aside0.mk f2
  have HE := Aside0.mk he
  clear hl hlv hr1 hc1 f1 f2 he
  go_enter Try.func6, Try.ntmps6
  go_wp2_with fail
  refine (cantlelaw08_Lives.calls k true _ HLV.out).mono ?_
  rintro e w1 ⟨rfl, hb⟩
  have HB := Aside0.mk hb
  clear hb
  go_upto_region 4 with (first
    | ((with_reducible refine gate_dst (N := 16) rfl ?_); (try (refine gate_guard (by rfl) ?_; dsimp only)); refine Kd.R_lit (Kd.int .u8) _ 5 ?hg (N := 16) ?hd (xs := ([] : List Int)) (inner := []) (ok := fun _ => True) (okp := fun _ => True) ?hr ?hp (fun _ hk => hk) trivial (Below.refl _ _) (Nat.le_refl _) (by simp) ?_; (case hd => rfl); (case hg => rfl); (case hr => first | (go_simp; done) | (go_simp; rfl)); (case hp => exact (Reps.none _ _)); intro v147 w16 ho17 hb hg_ hnew_; clear hg_ hnew_; have n0_ := Aside0.mk (Kd.R_lower ho17 (below_size HB.out)); have n1_ := Aside0.mk (below_step HB.out hb); clear HB; have HO148 := n0_; have HB := n1_; clear n0_ n1_; clear hb ho17)
    | ((with_reducible refine gate_builtin (b := .append) (xs := #[.tmp 16, .tmp 17]) rfl ?_); (try (refine gate_guard (by rfl) ?_; dsimp only)); at_builtin; refine Kd.R_append_rows (Kd.int .u8) (w0 := w0) w0.heap.size rfl (.tmp 16) (.tmp 17) 22 5 (.int .u8 0) 1 rfl Try.underlying22 info5' rfl (by decide) (by omega) v147 [] b _ _ _ (fun _ => True) (fun _ => False) rfl rfl ?aO ?aR (fun _ _ h => h) (fun _ h => h.elim) ?aF ?aB ?aS ?aL ?_; (case aR => exact (Kd.C_below HR1.out HB.out)); (case aB => exact HB.out); (case aF => exact (fun _ _ => trivial)); (case aO => exact HO148.out); (case aS => exact (below_size HB.out)); (case aL => (have := HL.out; simp; omega)); intro v150 w18 ho hb hg hat; rw [List.nil_append] at ho; have n0_ := Aside0.mk (hb); have n1_ := Aside0.mk (ho); clear HB; clear HO148; have HB := n0_; have HO151 := n1_; clear n0_ n1_; clear ho hb hg hat))
  obtain ⟨A5, c5, rfl, hc5, hC5⟩ := Kd.R_reads HO151.out
  have HR5 := Aside0.mk hC5
  have HC5 := Aside0.mk hc5
  clear HO151 hC5 hc5
  go_wp2_with fail
  refine (entry_Decode.calls k A5 c5 b n i _ _ HR5.out HC5.out F1.out).mono ?_
  rintro e w2 ⟨rfl, hb⟩
  have HB2 := Aside0.mk (below_then HB.out HB.out.size hb)
  have HR52 := Aside0.mk (Kd.C_below HR5.out hb)
  clear hb HB HR5
  have HX3 := Aside0.mk (heap_alloc_new w2 (.cells #[.string n, .int .i64 i] 33))
  have HB3 := Aside0.mk (below_alloc HB2.out (.cells #[.string n, .int .i64 i] 33))
  have HR53 := Aside0.mk (Kd.C_alloc (o := .cells #[.string n, .int .i64 i] 33) HR52.out)
  have hcv := Kd.C_string (P := Try.prog) (A := A1) (c := c1) Try.underlying22 Try.underlying5 Try.underlying9 (Kd.C_below HR1.out HB3.out)
  clear HR52 HB2
  go_wp2_with fail
  clear hcv
  generalize w2.alloc (.cells #[.string n, .int .i64 i] 33) = w3 at HX3 HB3 HR53 ⊢
  generalize w2.heap.size = g at HX3 ⊢
  refine (cantleref08_Decode.calls k (strOfNums b) n i is_ _ F2.out).mono ?_
  rintro e w4 ⟨rfl, hb⟩
  have HX4 := Aside0.mk (blk_alloc (blk_below HX3.out hb) (.cells #[.string n, .int .i64 i] 32))
  have HB4 := Aside0.mk (below_alloc (below_then HB3.out HB3.out.size hb) (.cells #[.string n, .int .i64 i] 32))
  have HR54 := Aside0.mk (Kd.C_alloc (o := .cells #[.string n, .int .i64 i] 32) (Kd.C_below HR53.out hb))
  have HY4 := Aside0.mk (heap_alloc_new w4 (.cells #[.string n, .int .i64 i] 32))
  have hcv := Kd.C_string (P := Try.prog) (A := A1) (c := c1) Try.underlying22 Try.underlying5 Try.underlying9 (Kd.C_below HR1.out HB4.out)
  have hcv5 := Kd.C_string (P := Try.prog) (A := A5) (c := c5) Try.underlying22 Try.underlying5 Try.underlying9 HR54.out
  have hq0 : (w4.alloc (.cells #[.string n, .int .i64 i] 32)).cell? ⟨g, 0, none⟩ = some (.string n) := (blk_cell HX4.out 0).trans rfl
  have hq1 : (w4.alloc (.cells #[.string n, .int .i64 i] 32)).cell? ⟨g, 1, none⟩ = some (.int .i64 i) := (blk_cell HX4.out 1).trans rfl
  have hq2 : (w4.alloc (.cells #[.string n, .int .i64 i] 32)).cell? ⟨w4.heap.size, 0, none⟩ = some (.string n) := (blk_cell HY4.out 0).trans rfl
  have hq3 : (w4.alloc (.cells #[.string n, .int .i64 i] 32)).cell? ⟨w4.heap.size, 1, none⟩ = some (.int .i64 i) := (blk_cell HY4.out 1).trans rfl
  clear hb HX3 HB3 HR53
  have he := HE.out
  clear HE
  cases is_
  · obtain rfl : e = 2 := he
    go_wp2_with fail
    go_ret
    exact ⟨rfl, HB4.out⟩
  · obtain rfl : e = 0 := he
    go_wp2_with fail
    go_ret
    exact ⟨rfl, HB4.out⟩
end Go.Proofs.Ytfkfpeiocdjniaa.PAll
