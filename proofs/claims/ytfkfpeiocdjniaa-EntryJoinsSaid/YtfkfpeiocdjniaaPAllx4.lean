-- Laid by a program of this session (wip/tools), out of the translation; proved by Lean.
import Derived.Test.YtfkfpeiocdjniaaPAllx0
import Derived.Test.YtfkfpeiocdjniaaPAllx3
namespace Go.Proofs.Ytfkfpeiocdjniaa.PAll
open Go.RowKit Go.Proofs.YtfkfpeiocdjniaaW.PrintWords Go.Proofs.YtfkfpeiocdjniaaW.PrintLast Go.Proofs.YtfkfpeiocdjniaaW.PrintMore
attribute [local go_sem] max2_int min2_int max_two min_two max_three min_three max_four min_four   -- for this text's walks alone
set_option linter.unusedVariables false
set_option linter.unusedSimpArgs false

/-- A row of 64 octets of one's own, the first n of which read as f. -/
structure Byt (W : World) (g n : Nat) (f : Nat → Int) : Prop where
  row : ∃ cs : Array Value, W.heap[g]? = some (.cells cs 5 (0, 0)) ∧ cs.size = 64 ∧ ∀ i, i < n → cs[i]? = some (.int .u8 (f i))
theorem Byt.keep {W W' : World} {g n : Nat} {f : Nat → Int} (h : Byt W g n f) (h2 : W'.heap[g]? = W.heap[g]?) : Byt W' g n f := by
  obtain ⟨cs, b, c⟩ := h
  exact ⟨cs, h2.trans b, c⟩
theorem Byt.congr {W : World} {g n : Nat} {f f' : Nat → Int} (h : Byt W g n f) (e : ∀ i, i < n → f i = f' i) : Byt W g n f' := by
  obtain ⟨cs, b, c, d⟩ := h
  exact ⟨cs, b, c, fun i hi => by rw [← e i hi]; exact d i hi⟩
theorem Byt.lt {W : World} {g n : Nat} {f : Nat → Int} (h : Byt W g n f) : g < W.heap.size := by
  obtain ⟨cs, b, c⟩ := h
  exact blk_lt b
theorem Byt.at_ {W : World} {g n : Nat} {f : Nat → Int} (h : Byt W g n f) (i : Nat) (hi : i < n) : W.cell? ⟨g, i, none⟩ = some (.int .u8 (f i)) := by
  obtain ⟨cs, b, c, d⟩ := h
  rw [blk_cell b, d i hi]
theorem Byt.frozen {W : World} {g n : Nat} {f : Nat → Int} (h : Byt W g n f) (i : Nat) : W.frozen? ⟨g, i, none⟩ = false := by
  obtain ⟨cs, b, c⟩ := h
  exact blk_frozen b i
theorem Byt.set_ {W : World} {g n : Nat} {f : Nat → Int} (h : Byt W g n f) (hn : n ≤ 64) (q : Nat) (hq : q < n) (x : Int) : Byt (W.setCell ⟨g, q, none⟩ (.int .u8 x)) g n (fun i => if i = q then x else f i) := by
  obtain ⟨cs, b, c, d⟩ := h
  refine ⟨_, blk_set b q (.int .u8 x), by simp [c], fun i hi => ?_⟩
  rw [Array.getElem?_setIfInBounds]
  by_cases e : q = i
  · subst e; rw [if_pos rfl, if_pos (by omega), if_pos rfl]
  · rw [if_neg e, if_neg (fun h => e h.symm), d i hi]
theorem Byt.copy {W : World} {g n : Nat} {f : Nat → Int} (h : Byt W g n f) (hn : n ≤ 64) (o : Nat) (s : ByteArray) (hs : o + s.size ≤ n) :
    Byt (W.setCells g o (s.data.toList.map fun x => Value.int .u8 (x.toNat : Int))) g n (fun i => if o ≤ i ∧ i < o + s.size then bt s ((i - o : Nat) : Int) else f i) := by
  obtain ⟨cs, b, c, d⟩ := h
  have hl : (s.data.toList.map fun x => Value.int .u8 (x.toNat : Int)).length = s.size := by rw [List.length_map, Array.length_toList]; rfl
  obtain ⟨cur, h1, h2, h3⟩ := setCells_row (g := g) (e := 5) (s.data.toList.map fun x => Value.int .u8 (x.toNat : Int)) o W cs b (by rw [hl, c]; omega)
  refine ⟨cur, h1, by rw [h2, c], fun i hi => ?_⟩
  have hcl : cs.toList.length = 64 := by rw [Array.length_toList, c]
  rw [← Array.getElem?_toList, h3]
  by_cases e1 : i < o
  · rw [if_neg (by omega), List.append_assoc, List.getElem?_append_left (by rw [List.length_take]; omega), List.getElem?_take_of_lt e1, Array.getElem?_toList, d i hi]
  · by_cases e2 : i < o + s.size
    · have hj : i - o < s.size := by omega
      rw [if_pos ⟨by omega, e2⟩, List.getElem?_append_left (by rw [List.length_append, List.length_take, hl]; omega), List.getElem?_append_right (by rw [List.length_take]; omega), List.length_take, show i - min o cs.toList.length = i - o from by omega, List.getElem?_map]
      have : s.data.toList[i - o]? = some (s[i - o]'hj) := by
        rw [List.getElem?_eq_getElem (by rw [Array.length_toList]; exact hj)]; simp [ByteArray.getElem_eq_getElem_data]
      rw [this]
      unfold bt
      rw [dif_pos (by rw [Int.toNat_natCast]; exact hj)]
      simp
    · rw [if_neg (by omega), List.getElem?_append_right (by rw [List.length_append, List.length_take, hl]; omega), List.length_append, List.length_take, hl, List.getElem?_drop, show o + s.size + (i - (min o cs.toList.length + s.size)) = i from by omega, Array.getElem?_toList, d i hi]
/-- What Encode's first 60 octets are. -/
def baseF (a0 : ByteArray) (a1 : Int) : Nat → Int := fun i => if i = 0 then a1 % 256 else if i = 1 then a1 / 256 % 256 else if i = 2 then (a0.size : Int) % 256 else if i = 3 then 0 else if i < 4 + a0.size then bt a0 ((i - 4 : Nat) : Int) else 0
def base (a0 : ByteArray) (a1 : Int) : List Int := (List.range 60).map (baseF a0 a1)
def sums (s : Int) : List Int := [s % 256, s / 256 % 256, s / 65536 % 256, s / 16777216 % 256]
def entry_Encode.f (k : Nat) (a0_0 : ByteArray) (a0_1 : Int) : Option (List Int × Int) := (entry_Entry_May.f a0_0 a0_1).bind fun t => if t = true then (crc_Sum32.f k [base a0_0 a0_1]).bind fun s => some (base a0_0 a0_1 ++ sums s, 0) else some (([] : List Int), 1)
theorem entry_Encode.mono : ∀ a0 a1 k, LeO (entry_Encode.f k a0 a1) (entry_Encode.f (k + 1) a0 a1) := by
  intro a0 a1 k
  unfold entry_Encode.f
  refine LeO.bind (LeO.refl _) (fun t => ?_)
  refine LeO.ite ?_ (LeO.refl _)
  exact LeO.bind (crc_Sum32.mono _ _) (fun _ => LeO.refl _)
theorem may_true {a0 : ByteArray} {a1 : Int} (h : entry_Entry_May.f a0 a1 = some true) : a0.size ≤ 48 ∧ 0 ≤ a1 ∧ a1 < 65534 := by
  unfold entry_Entry_May.f entry_Right.f at h
  by_cases c1 : a0.toList = ([] : List UInt8)
  · rw [if_pos c1] at h; simp at h
  · rw [if_neg c1] at h
    by_cases c2 : (a0.size : Int) ≤ 48
    · rw [if_pos c2] at h
      obtain ⟨t, h1, h2⟩ := Option.bind_eq_some_iff.1 h
      cases t
      · simp at h2
      · rw [if_pos rfl] at h2
        by_cases c3 : a1 ≥ 0
        · rw [if_pos c3] at h2
          have := of_decide_eq_true (Option.some.inj h2)
          omega
        · rw [if_neg c3] at h2; simp at h2
    · rw [if_neg c2] at h; simp at h
theorem info5' : (Try.prog.info? 5).map (fun i => (i.zero, i.size, i.bytes)) = some (some (.int .u8 0), 1, 1) := by kernel_rfl
theorem heap_setCells_ne {b g : Nat} (h : b ≠ g) : ∀ (vs : List Value) (o : Nat) (W : World), (W.setCells g o vs).heap[b]? = W.heap[b]?
  | [], _, _ => rfl
  | v :: r, o, W => (heap_setCells_ne h r (o + 1) _).trans (Below.heap_setCell W ⟨g, o, none⟩ v b h)
theorem make_enc (W : World) : (Instr.makeSlice 22 (.int .i64 60) (.int .i64 64)).run Try.prog W = .ok (.slice (some ⟨W.heap.size, 0, none⟩) 60 64) (W.alloc (.cells (madeCells #[.int .u8 0] 64) 5)) := by
  obtain ⟨i, hi, hz, hs, hb⟩ := info_parts info5'
  have hr := run_make (P := Try.prog) W 22 5 i (.int .u8 0) Try.underlying22 hi hz .i64 .i64 60 64 (by decide) (by decide) (by rw [hb]; decide) (by decide)
  rw [hs] at hr
  exact hr
theorem byt_new (W : World) : Byt (W.alloc (.cells (madeCells #[.int .u8 0] 64) 5)) W.heap.size 64 (fun _ => 0) :=
  ⟨_, heap_alloc_new W _, by simp [madeCells], fun i hi => by simp [madeCells, hi, Nat.mod_one]⟩
def stg (x0 x1 x2 : Int) (l15 l17 l19 : Bool) : Nat → Int := fun i => if i = 0 then (if l15 then x0 else 0) else if i = 1 then (if l17 then x1 else 0) else if i = 2 then (if l19 then x2 else 0) else 0
def stc (f f' : Nat → Int) (l : Bool) : Nat → Int := if l then f' else f
theorem cut_enc (g : Nat) (W : World) : (Instr.slice 22 (.slice (some ⟨g, 0, none⟩) 60 64) (some (.int .i64 4)) none none).run Try.prog W = .ok (.slice (some ⟨g, 4, none⟩) 56 60) W := by
  obtain ⟨i, hi, _, hs, _⟩ := info_parts info5'
  have := cut_from (P := Try.prog) 22 5 .i64 Try.underlying22 hi 1 hs (some ⟨g, 0, none⟩) 60 64 4 (by decide) (by decide) W
  rw [this]
  rfl
theorem copy_base (a0 : ByteArray) (a1 : Int) (hz : a0.size ≤ 48 ∧ 0 ≤ a1 ∧ a1 < 65534) (i : Nat) (hi : i < 64) : (if 4 ≤ i ∧ i < 4 + a0.size then bt a0 ((i - 4 : Nat) : Int) else stg (a1 % 256) (a1 / 256 % 256) ((a0.size : Int) % 256) true true true i) = baseF a0 a1 i := by
  unfold stg baseF
  by_cases h0 : i = 0
  · subst h0; simp
  by_cases h1 : i = 1
  · subst h1; simp
  by_cases h2 : i = 2
  · subst h2; simp
  by_cases h3 : i = 3
  · subst h3; simp
  by_cases h4 : i < 4 + a0.size
  · rw [if_pos ⟨by omega, h4⟩, if_neg h0, if_neg h1, if_neg h2, if_neg h3, if_pos h4]
  · rw [if_neg (fun h => h4 h.2), if_neg h0, if_neg h1, if_neg h2, if_neg h0, if_neg h1, if_neg h2, if_neg h3, if_neg h4]
theorem copy_base2 (a0 : ByteArray) (a1 : Int) (i : Nat) : (if 4 ≤ i ∧ i < 4 + a0.size then bt a0 ((i - 4 : Nat) : Int) else baseF a0 a1 i) = baseF a0 a1 i := by
  by_cases h : 4 ≤ i ∧ i < 4 + a0.size
  · rw [if_pos h]; unfold baseF
    rw [if_neg (by omega), if_neg (by omega), if_neg (by omega), if_neg (by omega), if_pos h.2]
  · rw [if_neg h]
theorem sums_take (s : Int) (i : Nat) (hi : i < 4) : (sums s).take (i + 1) = (sums s).take i ++ [s / 2 ^ (8 * i) % 256] := by
  obtain rfl | rfl | rfl | rfl : i = 0 ∨ i = 1 ∨ i = 2 ∨ i = 3 := by omega
  all_goals simp [sums]
theorem base_length (a0 : ByteArray) (a1 : Int) : (base a0 a1).length = 60 := by simp [base]
theorem base_get (a0 : ByteArray) (a1 : Int) (i : Nat) (hi : i < 60) : (base a0 a1)[i]? = some (baseF a0 a1 i) := by simp [base, hi]
theorem Byt.own {W : World} {g : Nat} {a0 : ByteArray} {a1 : Int} {b : Nat} (h : Byt W g 64 (baseF a0 a1)) (hb : b ≤ g) : W.ownsRow b 5 1 (.slice (some ⟨g, 0, none⟩) 60 64) 60 (nums .u8 (base a0 a1)) := by
  obtain ⟨cs, h1, h2, h3⟩ := h
  refine ⟨by simp [nums, base], .inr ⟨g, 64, cs, rfl, hb, h1, by decide, by decide, by rw [h2], ?_⟩⟩
  apply List.ext_getElem?
  intro i
  by_cases hi : i < 60
  · rw [List.getElem?_take_of_lt hi, Array.getElem?_toList, h3 i (by omega)]
    simp [nums, base, hi]
  · rw [List.getElem?_eq_none (by simp; omega), List.getElem?_eq_none (by simp [nums, base]; omega)]
theorem Byt.R {W : World} {g : Nat} {a0 : ByteArray} {a1 : Int} {b : Nat} (h : Byt W g 64 (baseF a0 a1)) (hb : b ≤ g) : Kd.R (Kd.int .u8) 5 W b (fun _ => True) (.slice (some ⟨g, 0, none⟩) 60 64) (base a0 a1) :=
  Kd.R_of_own (by rw [base_length]; exact h.own hb) (fun _ _ => trivial)
set_option maxRecDepth 100000 in
set_option maxHeartbeats 8000000 in
theorem entry_Encode.calls (k : Nat) (a0_0 : ByteArray) (a0_1 : Int) (r1 : List Int) (r2 : Int) (w0 : World) (h : entry_Encode.f k a0_0 a0_1 = some (r1, r2)) :
    Calls Try.prog 17 #[.agg #[.string a0_0, .int .i64 a0_1]] w0 fun e w' => ∃ v0_ : Value, e = .returned (.tuple #[v0_, .int .i64 r2]) ∧ Kd.R (Kd.int .u8) 5 w' w0.heap.size (fun _ => True) v0_ r1 ∧ Below w0.heap.size w0 w' := by
  unfold entry_Encode.f at h
  obtain ⟨t, hm, h⟩ := Option.bind_eq_some_iff.1 h
  cases t
  · rw [if_neg (by simp)] at h
    obtain ⟨rfl, rfl⟩ := Prod.mk.inj (Option.some.inj h)
    have HM := Aside0.mk hm
    clear h hm
    go_enter Try.func17, Try.ntmps17
    go_wp2_with fail
    refine (entry_Entry_May.calls a0_0 a0_1 false _ HM.out).mono ?_
    rintro e w1 ⟨rfl, hb⟩
    have HB := Aside0.mk (below_then (below_alloc (Below.refl _ _) _) (below_alloc (Below.refl w0.heap.size w0) _).size hb)
    clear hb
    go_wp2_with fail
    go_ret2
    exact ⟨_, rfl, Kd.R_nil _ _ _ _ _, HB.out⟩
  · rw [if_pos rfl] at h
    obtain ⟨sm, hsum, h⟩ := Option.bind_eq_some_iff.1 h
    obtain ⟨rfl, rfl⟩ := Prod.mk.inj (Option.some.inj h)
    have hsz := may_true hm
    have HM := Aside0.mk hm
    have HS := Aside0.mk hsum
    have HZ := Aside0.mk hsz
    clear h hm hsum hsz
    go_enter Try.func17, Try.ntmps17
    go_wp2_with fail
    have HX0 := Aside0.mk (heap_alloc_new w0 (.cells #[.string a0_0, .int .i64 a0_1] 33))
    refine (entry_Entry_May.calls a0_0 a0_1 true _ HM.out).mono ?_
    rintro e w1 ⟨rfl, hb⟩
    have HX1 := Aside0.mk (blk_below HX0.out hb)
    have HB1 := Aside0.mk (below_then (below_alloc (Below.refl _ _) _) (below_alloc (Below.refl w0.heap.size w0) _).size hb)
    clear hb HX0
    have HGE := Aside0.mk (show w0.heap.size < w1.heap.size from blk_lt HX1.out)
    have hmk := make_enc
    go_wp2_with fail
    clear hmk
    have HXg := Aside0.mk (blk_alloc HX1.out (.cells (madeCells #[.int .u8 0] 64) 5))
    have HRg := Aside0.mk (byt_new w1)
    have HBg := Aside0.mk (below_alloc HB1.out (.cells (madeCells #[.int .u8 0] 64) 5))
    have HNE := Aside0.mk (show w0.heap.size ≠ w1.heap.size ∧ w0.heap.size ≤ w1.heap.size from ⟨by have := HGE.out; omega, HB1.out.size⟩)
    generalize w1.alloc (.cells (madeCells #[.int .u8 0] 64) 5) = w2 at HXg HRg HBg ⊢
    generalize w1.heap.size = g at HRg HNE ⊢
    clear HX1 HB1 HGE
    have hz := HZ.out
    refine Spec.wp_toldL (F := fun j => [0, 0, 0, 0, 8, 24, 0, 64, 192, 448, 0, 1024, 3072, 7168, 57, 16441, 50171, 115707, 262143, 524287].getD j 0) (C := fun L W => (W.heap[w0.heap.size]? = some (.cells #[.string a0_0, .int .i64 a0_1] 33 (0, 0)) ∧ Below w0.heap.size w0 W) ∧ Byt W g 64 (stg (a0_1 % 256) (a0_1 / 256 % 256) ((a0_0.size : Int) % 256) (L 15) (L 17) (L 19))) (S := Spec.at_ [fun u W => u = .slice (some ⟨g, 0, none⟩) 60 64, fun u W => u = .slice (some ⟨g, 0, none⟩) 60 64, fun u W => u = .slice (some ⟨g, 0, none⟩) 60 64, fun u W => u = .pointer (some ⟨w0.heap.size, 1, none⟩), fun u W => u = .int .i64 a0_1, fun u W => u = .int .u8 (a0_1 % 256), fun u W => u = .pointer (some ⟨w0.heap.size, 1, none⟩), fun u W => u = .int .i64 a0_1, fun u W => u = .int .i64 (a0_1 / 256), fun u W => u = .int .u8 (a0_1 / 256 % 256), fun u W => u = .pointer (some ⟨w0.heap.size, 0, none⟩), fun u W => u = .string a0_0, fun u W => u = .int .i64 (a0_0.size : Int), fun u W => u = .int .u8 ((a0_0.size : Int) % 256), fun u W => u = .pointer (some ⟨g, 0, none⟩), fun u W => True, fun u W => u = .pointer (some ⟨g, 1, none⟩), fun u W => True, fun u W => u = .pointer (some ⟨g, 2, none⟩), fun u W => True]) (Kp := fun W W' => True) (by kernel_rfl) (by kernel_rfl) (Spec.AllStay.at_ ?stay_4) ?cong_4 ?start_4 ?ops_4 ?end_4
    case cong_4 =>
      intro L L' w h hC; rw [← h 15 (by decide), ← h 17 (by decide), ← h 19 (by decide)]; exact hC
    case stay_4 =>
      exact ⟨fun _ _ _ _ h => h, fun _ _ _ _ h => h, fun _ _ _ _ h => h, fun _ _ _ _ h => h, fun _ _ _ _ h => h, fun _ _ _ _ h => h, fun _ _ _ _ h => h, fun _ _ _ _ h => h, fun _ _ _ _ h => h, fun _ _ _ _ h => h, fun _ _ _ _ h => h, fun _ _ _ _ h => h, fun _ _ _ _ h => h, fun _ _ _ _ h => h, fun _ _ _ _ h => h, fun _ _ _ _ h => h, fun _ _ _ _ h => h, fun _ _ _ _ h => h, fun _ _ _ _ h => h, fun _ _ _ _ h => h, trivial⟩
    case start_4 =>
      exact ⟨⟨HXg.out, below_drew HBg.out⟩, (show Byt w2.drew g 64 (fun _ => 0) from HRg.out.keep rfl).congr (fun i _ => by unfold stg; simp)⟩
    case ops_4 =>
      refine ⟨?_, ?_, ?_, ?_, ?_, ?_, ?_, ?_, ?_, ?_, ?_, ?_, ?_, ?_, ?_, ?_, ?_, ?_, ?_, ?_, trivial⟩
      · -- 0: Op.move (Operand.tmp 4)
        refine Spec.tellL rfl fun L v w hC hLj hS hLd ρ hρ K hK => ?_
        have r4 : ρ (.tmp 4) = .slice (some ⟨g, 0, none⟩) 60 64 := (hρ _ (by simp [Op.operands])).trans (by kernel_rfl)
        clear hρ hS
        go_simp
        exact hK _ _ hC (trivial) rfl
      · -- 1: Op.move (Operand.tmp 4)
        refine Spec.tellL rfl fun L v w hC hLj hS hLd ρ hρ K hK => ?_
        have r4 : ρ (.tmp 4) = .slice (some ⟨g, 0, none⟩) 60 64 := (hρ _ (by simp [Op.operands])).trans (by kernel_rfl)
        clear hρ hS
        go_simp
        exact hK _ _ hC (trivial) rfl
      · -- 2: Op.move (Operand.tmp 4)
        refine Spec.tellL rfl fun L v w hC hLj hS hLd ρ hρ K hK => ?_
        have r4 : ρ (.tmp 4) = .slice (some ⟨g, 0, none⟩) 60 64 := (hρ _ (by simp [Op.operands])).trans (by kernel_rfl)
        clear hρ hS
        go_simp
        exact hK _ _ hC (trivial) rfl
      · -- 3: Op.fieldAddr 33 (Operand.tmp 1) 1
        refine Spec.tellL rfl fun L v w hC hLj hS hLd ρ hρ K hK => ?_
        have r1 : ρ (.tmp 1) = .pointer (some ⟨w0.heap.size, 0, none⟩) := (hρ _ (by simp [Op.operands])).trans (by kernel_rfl)
        clear hρ hS
        go_simp
        exact hK _ _ hC (trivial) rfl
      · -- 4: Op.load 3 (Operand.tmp 14)
        refine Spec.tellL rfl fun L v w hC hLj hS hLd ρ hρ K hK => ?_
        have s3 : v 3 = .pointer (some ⟨w0.heap.size, 1, none⟩) := (hS 3 rfl).2
        have r14 : ρ (.tmp 14) = .pointer (some ⟨w0.heap.size, 1, none⟩) := ((hρ _ (by simp [Op.operands])).trans (by kernel_rfl : Spec.look _ _ _ v (.tmp 14) = v 3)).trans s3
        clear hρ hS
        have q1 := (blk_cell hC.1.1 1).trans rfl
        go_simp
        exact hK _ _ hC (trivial) rfl
      · -- 5: Op.convert 3 5 (Operand.tmp 15)
        refine Spec.tellL rfl fun L v w hC hLj hS hLd ρ hρ K hK => ?_
        have s4 : v 4 = .int .i64 a0_1 := (hS 4 rfl).2
        have r15 : ρ (.tmp 15) = .int .i64 a0_1 := ((hρ _ (by simp [Op.operands])).trans (by kernel_rfl : Spec.look _ _ _ v (.tmp 15) = v 4)).trans s4
        clear hρ hS
        go_simp
        exact hK _ _ hC (trivial) rfl
      · -- 6: Op.fieldAddr 33 (Operand.tmp 1) 1
        refine Spec.tellL rfl fun L v w hC hLj hS hLd ρ hρ K hK => ?_
        have r1 : ρ (.tmp 1) = .pointer (some ⟨w0.heap.size, 0, none⟩) := (hρ _ (by simp [Op.operands])).trans (by kernel_rfl)
        clear hρ hS
        go_simp
        exact hK _ _ hC (trivial) rfl
      · -- 7: Op.load 3 (Operand.tmp 17)
        refine Spec.tellL rfl fun L v w hC hLj hS hLd ρ hρ K hK => ?_
        have s6 : v 6 = .pointer (some ⟨w0.heap.size, 1, none⟩) := (hS 6 rfl).2
        have r17 : ρ (.tmp 17) = .pointer (some ⟨w0.heap.size, 1, none⟩) := ((hρ _ (by simp [Op.operands])).trans (by kernel_rfl : Spec.look _ _ _ v (.tmp 17) = v 6)).trans s6
        clear hρ hS
        have q1 := (blk_cell hC.1.1 1).trans rfl
        go_simp
        exact hK _ _ hC (trivial) rfl
      · -- 8: Op.binOp BinOp.shr 3 (Operand.tmp 18) (Operand.const (Value.int IntKind.u64 8)) 58
        refine Spec.tellL rfl fun L v w hC hLj hS hLd ρ hρ K hK => ?_
        have s7 : v 7 = .int .i64 a0_1 := (hS 7 rfl).2
        have r18 : ρ (.tmp 18) = .int .i64 a0_1 := ((hρ _ (by simp [Op.operands])).trans (by kernel_rfl : Spec.look _ _ _ v (.tmp 18) = v 7)).trans s7
        have c0 : ρ (.const (Value.int IntKind.u64 8)) = (Value.int IntKind.u64 8) := (hρ _ (by simp [Op.operands])).trans (by kernel_rfl)
        clear hρ hS
        go_simp
        exact hK _ _ hC (trivial) rfl
      · -- 9: Op.convert 3 5 (Operand.tmp 19)
        refine Spec.tellL rfl fun L v w hC hLj hS hLd ρ hρ K hK => ?_
        have s8 : v 8 = .int .i64 (a0_1 / 256) := (hS 8 rfl).2
        have r19 : ρ (.tmp 19) = .int .i64 (a0_1 / 256) := ((hρ _ (by simp [Op.operands])).trans (by kernel_rfl : Spec.look _ _ _ v (.tmp 19) = v 8)).trans s8
        clear hρ hS
        go_simp
        exact hK _ _ hC (trivial) rfl
      · -- 10: Op.fieldAddr 33 (Operand.tmp 1) 0
        refine Spec.tellL rfl fun L v w hC hLj hS hLd ρ hρ K hK => ?_
        have r1 : ρ (.tmp 1) = .pointer (some ⟨w0.heap.size, 0, none⟩) := (hρ _ (by simp [Op.operands])).trans (by kernel_rfl)
        clear hρ hS
        go_simp
        exact hK _ _ hC (trivial) rfl
      · -- 11: Op.load 9 (Operand.tmp 21)
        refine Spec.tellL rfl fun L v w hC hLj hS hLd ρ hρ K hK => ?_
        have s10 : v 10 = .pointer (some ⟨w0.heap.size, 0, none⟩) := (hS 10 rfl).2
        have r21 : ρ (.tmp 21) = .pointer (some ⟨w0.heap.size, 0, none⟩) := ((hρ _ (by simp [Op.operands])).trans (by kernel_rfl : Spec.look _ _ _ v (.tmp 21) = v 10)).trans s10
        clear hρ hS
        have q0 := (blk_cell hC.1.1 0).trans rfl
        go_simp
        exact hK _ _ hC (trivial) rfl
      · -- 12: Op.call { callee := Callee.builtin Builtin.len, args := #[Operand.tmp 22], argTypes := #[9
        refine Spec.tellL rfl fun L v w hC hLj hS hLd ρ hρ K hK => ?_
        have s11 : v 11 = .string a0_0 := (hS 11 rfl).2
        have r22 : ρ (.tmp 22) = .string a0_0 := ((hρ _ (by simp [Op.operands, Call.operands])).trans (by kernel_rfl : Spec.look _ _ _ v (.tmp 22) = v 11)).trans s11
        clear hρ hS
        go_simp
        exact hK _ _ hC (trivial) rfl
      · -- 13: Op.convert 3 5 (Operand.tmp 23)
        refine Spec.tellL rfl fun L v w hC hLj hS hLd ρ hρ K hK => ?_
        have s12 : v 12 = .int .i64 (a0_0.size : Int) := (hS 12 rfl).2
        have r23 : ρ (.tmp 23) = .int .i64 (a0_0.size : Int) := ((hρ _ (by simp [Op.operands])).trans (by kernel_rfl : Spec.look _ _ _ v (.tmp 23) = v 12)).trans s12
        clear hρ hS
        go_simp
        exact hK _ _ hC (trivial) rfl
      · -- 14: Op.indexAddr 22 (Operand.tmp 11) (Operand.const (Value.int IntKind.i64 0))
        refine Spec.tellL rfl fun L v w hC hLj hS hLd ρ hρ K hK => ?_
        have s0 : v 0 = .slice (some ⟨g, 0, none⟩) 60 64 := (hS 0 rfl).2
        have r11 : ρ (.tmp 11) = .slice (some ⟨g, 0, none⟩) 60 64 := ((hρ _ (by simp [Op.operands])).trans (by kernel_rfl : Spec.look _ _ _ v (.tmp 11) = v 0)).trans s0
        have c0 : ρ (.const (Value.int IntKind.i64 0)) = (Value.int IntKind.i64 0) := (hρ _ (by simp [Op.operands])).trans (by kernel_rfl)
        clear hρ hS
        go_simp
        exact hK _ _ hC (trivial) rfl
      · -- 15: Op.store 5 (Operand.tmp 25) (Operand.tmp 16)
        refine Spec.tellL rfl fun L v w hC hLj hS hLd ρ hρ K hK => ?_
        have s5 : v 5 = .int .u8 (a0_1 % 256) := (hS 5 rfl).2
        have s14 : v 14 = .pointer (some ⟨g, 0, none⟩) := (hS 14 rfl).2
        have r25 : ρ (.tmp 25) = .pointer (some ⟨g, 0, none⟩) := ((hρ _ (by simp [Op.operands])).trans (by kernel_rfl : Spec.look _ _ _ v (.tmp 25) = v 14)).trans s14
        have r16 : ρ (.tmp 16) = .int .u8 (a0_1 % 256) := ((hρ _ (by simp [Op.operands])).trans (by kernel_rfl : Spec.look _ _ _ v (.tmp 16) = v 5)).trans s5
        clear hρ hS
        have hc := hC.2.at_ 0 (by decide)
        have hfz := hC.2.frozen 0
        go_simp
        exact hK _ _ ⟨⟨(Below.heap_setCell w ⟨g, 0, none⟩ _ w0.heap.size HNE.out.1).trans hC.1.1, hC.1.2.setCell HNE.out.2 _⟩, (hC.2.set_ (by decide) 0 (by decide) _).congr (fun i _ => by unfold stg; (repeat' split) <;> simp_all)⟩ trivial trivial
      · -- 16: Op.indexAddr 22 (Operand.tmp 12) (Operand.const (Value.int IntKind.i64 1))
        refine Spec.tellL rfl fun L v w hC hLj hS hLd ρ hρ K hK => ?_
        have s1 : v 1 = .slice (some ⟨g, 0, none⟩) 60 64 := (hS 1 rfl).2
        have r12 : ρ (.tmp 12) = .slice (some ⟨g, 0, none⟩) 60 64 := ((hρ _ (by simp [Op.operands])).trans (by kernel_rfl : Spec.look _ _ _ v (.tmp 12) = v 1)).trans s1
        have c0 : ρ (.const (Value.int IntKind.i64 1)) = (Value.int IntKind.i64 1) := (hρ _ (by simp [Op.operands])).trans (by kernel_rfl)
        clear hρ hS
        go_simp
        exact hK _ _ hC (trivial) rfl
      · -- 17: Op.store 5 (Operand.tmp 26) (Operand.tmp 20)
        refine Spec.tellL rfl fun L v w hC hLj hS hLd ρ hρ K hK => ?_
        have s9 : v 9 = .int .u8 (a0_1 / 256 % 256) := (hS 9 rfl).2
        have s16 : v 16 = .pointer (some ⟨g, 1, none⟩) := (hS 16 rfl).2
        have r26 : ρ (.tmp 26) = .pointer (some ⟨g, 1, none⟩) := ((hρ _ (by simp [Op.operands])).trans (by kernel_rfl : Spec.look _ _ _ v (.tmp 26) = v 16)).trans s16
        have r20 : ρ (.tmp 20) = .int .u8 (a0_1 / 256 % 256) := ((hρ _ (by simp [Op.operands])).trans (by kernel_rfl : Spec.look _ _ _ v (.tmp 20) = v 9)).trans s9
        clear hρ hS
        have hc := hC.2.at_ 1 (by decide)
        have hfz := hC.2.frozen 1
        go_simp
        exact hK _ _ ⟨⟨(Below.heap_setCell w ⟨g, 1, none⟩ _ w0.heap.size HNE.out.1).trans hC.1.1, hC.1.2.setCell HNE.out.2 _⟩, (hC.2.set_ (by decide) 1 (by decide) _).congr (fun i _ => by unfold stg; (repeat' split) <;> simp_all)⟩ trivial trivial
      · -- 18: Op.indexAddr 22 (Operand.tmp 13) (Operand.const (Value.int IntKind.i64 2))
        refine Spec.tellL rfl fun L v w hC hLj hS hLd ρ hρ K hK => ?_
        have s2 : v 2 = .slice (some ⟨g, 0, none⟩) 60 64 := (hS 2 rfl).2
        have r13 : ρ (.tmp 13) = .slice (some ⟨g, 0, none⟩) 60 64 := ((hρ _ (by simp [Op.operands])).trans (by kernel_rfl : Spec.look _ _ _ v (.tmp 13) = v 2)).trans s2
        have c0 : ρ (.const (Value.int IntKind.i64 2)) = (Value.int IntKind.i64 2) := (hρ _ (by simp [Op.operands])).trans (by kernel_rfl)
        clear hρ hS
        go_simp
        exact hK _ _ hC (trivial) rfl
      · -- 19: Op.store 5 (Operand.tmp 27) (Operand.tmp 24)
        refine Spec.tellL rfl fun L v w hC hLj hS hLd ρ hρ K hK => ?_
        have s13 : v 13 = .int .u8 ((a0_0.size : Int) % 256) := (hS 13 rfl).2
        have s18 : v 18 = .pointer (some ⟨g, 2, none⟩) := (hS 18 rfl).2
        have r27 : ρ (.tmp 27) = .pointer (some ⟨g, 2, none⟩) := ((hρ _ (by simp [Op.operands])).trans (by kernel_rfl : Spec.look _ _ _ v (.tmp 27) = v 18)).trans s18
        have r24 : ρ (.tmp 24) = .int .u8 ((a0_0.size : Int) % 256) := ((hρ _ (by simp [Op.operands])).trans (by kernel_rfl : Spec.look _ _ _ v (.tmp 24) = v 13)).trans s13
        clear hρ hS
        have hc := hC.2.at_ 2 (by decide)
        have hfz := hC.2.frozen 2
        go_simp
        exact hK _ _ ⟨⟨(Below.heap_setCell w ⟨g, 2, none⟩ _ w0.heap.size HNE.out.1).trans hC.1.1, hC.1.2.setCell HNE.out.2 _⟩, (hC.2.set_ (by decide) 2 (by decide) _).congr (fun i _ => by unfold stg; (repeat' split) <;> simp_all)⟩ trivial trivial
    case end_4 =>
      intro v w' hC hS
      clear hS
      simp only [Spec.putAll, Act.put, List.setIfInBounds_toArray, List.set_cons_zero, List.set_cons_succ]
      generalize v 0 = x0
      generalize v 1 = x1
      generalize v 2 = x2
      generalize v 3 = x3
      generalize v 4 = x4
      generalize v 5 = x5
      generalize v 6 = x6
      generalize v 7 = x7
      generalize v 8 = x8
      generalize v 9 = x9
      generalize v 10 = x10
      generalize v 11 = x11
      generalize v 12 = x12
      generalize v 13 = x13
      generalize v 14 = x14
      generalize v 16 = x16
      generalize v 18 = x18
      go_wp2_with fail
      have HX3 := Aside0.mk hC.1.1
      have HB3 := Aside0.mk hC.1.2
      have HR3 := Aside0.mk hC.2
      clear hC
      have hz := HZ.out
      refine Spec.wp_toldL (F := fun j => [0, 1, 0, 4, 15].getD j 0) (C := fun L W => (W.heap[w0.heap.size]? = some (.cells #[.string a0_0, .int .i64 a0_1] 33 (0, 0)) ∧ Below w0.heap.size w0 W) ∧ Byt W g 64 (if L 4 then baseF a0_0 a0_1 else stg (a0_1 % 256) (a0_1 / 256 % 256) ((a0_0.size : Int) % 256) true true true)) (S := Spec.at_ [fun u W => u = .slice (some ⟨g, 0, none⟩) 60 64, fun u W => u = .slice (some ⟨g, 4, none⟩) 56 60, fun u W => u = .pointer (some ⟨w0.heap.size, 0, none⟩), fun u W => u = .string a0_0, fun u W => True]) (Kp := fun W W' => True) (by kernel_rfl) (by kernel_rfl) (Spec.AllStay.at_ ?stay_5) ?cong_5 ?start_5 ?ops_5 ?end_5
      case cong_5 =>
        intro L L' w h hC; rw [← h 4 (by decide)]; exact hC
      case stay_5 =>
        exact ⟨fun _ _ _ _ h => h, fun _ _ _ _ h => h, fun _ _ _ _ h => h, fun _ _ _ _ h => h, fun _ _ _ _ h => h, trivial⟩
      case start_5 =>
        exact ⟨⟨HX3.out, below_drew HB3.out⟩, (show Byt w'.drew g 64 _ from HR3.out.keep rfl).congr (fun i _ => by simp)⟩
      case ops_5 =>
        refine ⟨?_, ?_, ?_, ?_, ?_, trivial⟩
        · -- 0: Op.move (Operand.tmp 4)
          refine Spec.tellL rfl fun L v w hC hLj hS hLd ρ hρ K hK => ?_
          have r4 : ρ (.tmp 4) = .slice (some ⟨g, 0, none⟩) 60 64 := (hρ _ (by simp [Op.operands])).trans (by kernel_rfl)
          clear hρ hS
          go_simp
          exact hK _ _ hC (trivial) rfl
        · -- 1: Op.slice 22 (Operand.tmp 28) (some (Operand.const (Value.int IntKind.i64 4))) none none
          refine Spec.tellL rfl fun L v w hC hLj hS hLd ρ hρ K hK => ?_
          have s0 : v 0 = .slice (some ⟨g, 0, none⟩) 60 64 := (hS 0 rfl).2
          have r28 : ρ (.tmp 28) = .slice (some ⟨g, 0, none⟩) 60 64 := ((hρ _ (by simp [Op.operands])).trans (by kernel_rfl : Spec.look _ _ _ v (.tmp 28) = v 0)).trans s0
          have c0 : ρ (.const (Value.int IntKind.i64 4)) = (Value.int IntKind.i64 4) := (hρ _ (by simp [Op.operands])).trans (by kernel_rfl)
          clear hρ hS
          have hcut := cut_enc g w
          go_simp
          exact hK _ _ hC (trivial) rfl
        · -- 2: Op.fieldAddr 33 (Operand.tmp 1) 0
          refine Spec.tellL rfl fun L v w hC hLj hS hLd ρ hρ K hK => ?_
          have r1 : ρ (.tmp 1) = .pointer (some ⟨w0.heap.size, 0, none⟩) := (hρ _ (by simp [Op.operands])).trans (by kernel_rfl)
          clear hρ hS
          go_simp
          exact hK _ _ hC (trivial) rfl
        · -- 3: Op.load 9 (Operand.tmp 30)
          refine Spec.tellL rfl fun L v w hC hLj hS hLd ρ hρ K hK => ?_
          have s2 : v 2 = .pointer (some ⟨w0.heap.size, 0, none⟩) := (hS 2 rfl).2
          have r30 : ρ (.tmp 30) = .pointer (some ⟨w0.heap.size, 0, none⟩) := ((hρ _ (by simp [Op.operands])).trans (by kernel_rfl : Spec.look _ _ _ v (.tmp 30) = v 2)).trans s2
          clear hρ hS
          have q0 := (blk_cell hC.1.1 0).trans rfl
          go_simp
          exact hK _ _ hC (trivial) rfl
        · -- 4: Op.call { callee := Callee.builtin Builtin.copy, args := #[Operand.tmp 29, Operand.tmp 31]
          refine Spec.tellL rfl fun L v w hC hLj hS hLd ρ hρ K hK => ?_
          have s1 : v 1 = .slice (some ⟨g, 4, none⟩) 56 60 := (hS 1 rfl).2
          have s3 : v 3 = .string a0_0 := (hS 3 rfl).2
          have r29 : ρ (.tmp 29) = .slice (some ⟨g, 4, none⟩) 56 60 := ((hρ _ (by simp [Op.operands, Call.operands])).trans (by kernel_rfl : Spec.look _ _ _ v (.tmp 29) = v 1)).trans s1
          have r31 : ρ (.tmp 31) = .string a0_0 := ((hρ _ (by simp [Op.operands, Call.operands])).trans (by kernel_rfl : Spec.look _ _ _ v (.tmp 31) = v 3)).trans s3
          clear hρ hS
          have hcp := run_copy_string (P := Try.prog) w 22 9 3 5 g 4 56 60 a0_0 Try.underlying22 Try.sizeOf5 (by omega) (fun j hj => by rw [hC.2.at_ (4 + j) (by omega)]; rfl) (fun j hj => hC.2.frozen (4 + j))
          go_simp
          exact hK _ _ ⟨⟨(heap_setCells_ne HNE.out.1 _ _ _).trans hC.1.1, below_setCells HNE.out.2 _ _ _ hC.1.2⟩, (hC.2.copy (by decide) 4 a0_0 (by omega)).congr (fun i hi => by cases L 4 <;> first | exact copy_base a0_0 a0_1 hz i hi | exact copy_base2 a0_0 a0_1 i)⟩ trivial trivial
      case end_5 =>
        intro v w' hC hS
        clear hS
        simp only [Spec.putAll, Act.put, List.setIfInBounds_toArray, List.set_cons_zero, List.set_cons_succ]
        generalize v 0 = x0
        generalize v 1 = x1
        generalize v 2 = x2
        generalize v 3 = x3
        generalize v 4 = x4
        go_wp2_with fail
        have HB4 := Aside0.mk (below_alloc hC.1.2 (.cells #[.slice (some ⟨g, 0, none⟩) 60 64] 22))
        have HR4 := Aside0.mk (Byt.R (b := w0.heap.size) (show Byt w' g 64 (baseF a0_0 a0_1) from hC.2) HNE.out.2)
        clear hC
        have HR5 := Aside0.mk (Kd.R_alloc (o := .cells #[.slice (some ⟨g, 0, none⟩) 60 64] 22) HR4.out)
        obtain ⟨A, c, e, h2, h3⟩ := Kd.R_reads HR5.out
        have hce : (w'.alloc (.cells #[.slice (some ⟨g, 0, none⟩) 60 64] 22)).cell? ⟨w'.heap.size, 0, none⟩ = some (.slice A (base a0_0 a0_1).length c) := by
          rw [← e]; exact (blk_cell (heap_alloc_new w' _) 0).trans rfl
        refine (crc_Sum32.calls k (some ⟨w'.heap.size, 0, none⟩) 1 [base a0_0 a0_1] sm _ (Mem.C_row1 hce h2 h3) (Nat.le_refl _) HS.out).mono ?_
        rintro e w5 ⟨rfl, hd⟩
        have HO5 := Aside0.mk (Kd.R_below HR5.out hd.below)
        have HB5 := Aside0.mk (below_then HB4.out HB4.out.size hd.below)
        clear hce h2 h3 hd HR4 HB4 HR5
        go_wp2_with fail
        go_loopg [4, 36] 5 (fun gk v4 v36 wr => ∃ i : Nat, Aside0 (i + gk = 5) ∧ v36 = .int .i64 (i : Int) ∧ Aside0 (Kd.R (Kd.int .u8) 5 wr w0.heap.size (fun _ => True) v4 (base a0_0 a0_1 ++ (sums sm).take i)) ∧ Aside0 (Below w0.heap.size w0 wr))
        case atStart => exact ⟨0, ⟨rfl⟩, rfl, ⟨by simpa using HO5.out⟩, ⟨HB5.out⟩⟩
        case round =>
          obtain ⟨i, HP, rfl, HO_4, HB⟩ := hrel
          by_cases hi : i < 4
          · obtain ⟨gk, rfl⟩ : ∃ x, gk = x + 1 := ⟨gk - 1, by have := HP.out; omega⟩
            have d : decide ((i : Int) < 4) = true := decide_eq_true (by omega)
            obtain ⟨q, hq⟩ : ∃ q : Int, q = 8 * (i : Int) := ⟨_, rfl⟩
            have hqn : q.toNat = 8 * i := by omega
            have hqw : IntKind.i64.wrap (8 * (i : Int)) = q := by rw [i64_w, hq]; exact Math.w64 (by omega) (by omega)
            have c7b0 : (0 ≤ q) = True := eq_true (by omega)
            have c7b1 : decide (0 ≤ q) = true := decide_eq_true (by omega)
            obtain ⟨y, hy⟩ : ∃ y : Int, sm / 2 ^ q.toNat = y := ⟨_, rfl⟩
            have hy1 : sm / 2 ^ min q.toNat 32 = y := by rw [Nat.min_eq_left (by omega)]; exact hy
            have hi1 : IntKind.i64.wrap ((i : Int) + 1) = ((i + 1 : Nat) : Int) := by rw [i64_w]; exact Math.w64 (by omega) (by omega)
            have HE := Aside0.mk (show (base a0_0 a0_1 ++ (sums sm).take i) ++ [y % 256] = base a0_0 a0_1 ++ (sums sm).take (i + 1) by rw [sums_take _ _ hi, ← hy, hqn, List.append_assoc])
            have HLEN := Aside0.mk (show (base a0_0 a0_1 ++ (sums sm).take i).length ≤ 64 by rw [List.length_append, base_length, List.length_take]; simp [sums]; omega)
            generalize base a0_0 a0_1 ++ (sums sm).take i = xs at HE HLEN HO_4
            have HQ := Aside0.mk (And.intro hq (And.intro hqn hy))
            clear hq hqn hy hi
            go_wp2_with (first | ((with_reducible refine gate_builtin (b := .append) (xs := #[.tmp 39, .tmp 45]) rfl ?_); at_builtin; refine Kd.R_append (Kd.int .u8) (w0 := w0) w0.heap.size rfl (.tmp 39) (.tmp 45) 22 5 (.int .u8 0) 1 rfl Try.underlying22 info5' rfl (by decide) (by omega) u4 xs (y % 256) [.int .u8 (y % 256)] (fun _ => True) (fun _ => False) rfl rfl ?aP (fun _ hk => hk.elim) ?aF ?aO ?aB ?aS ?aL ?_; (case aP => exact rfl); (case aB => exact (by repeat (first | (with_reducible first | exact HB.out | apply below_alloc | apply pw_below_drewN | apply below_drew1) | exact HB.out))); (case aF => exact (fun _ _ => trivial)); (case aO => exact (by (with_reducible repeat (first | apply Kd.R_alloc | apply Kd.R_drewN | apply Kd.R_drew)); exact HO_4.out)); (case aS => exact (below_size (by repeat (first | (with_reducible first | exact HB.out | apply below_alloc | apply pw_below_drewN | apply below_drew1) | exact HB.out)))); (case aL => have := HLEN.out; omega); intro v127 w10 ho hb hg hat; rw [HE.out] at ho; have n0_ := Aside0.mk (hb); have n1_ := Aside0.mk (ho); clear HB; clear HO_4; have HB := n0_; have HO128 := n1_; clear n0_ n1_; clear ho hb hg hat))
            go_roundg gk
            case measure => omega
            case rel => exact ⟨i + 1, ⟨by have := HP.out; omega⟩, rfl, ⟨HO128.out⟩, ⟨HB.out⟩⟩
          · have d : decide ((i : Int) < 4) = false := decide_eq_false (by omega)
            have hs4 : (sums sm).take i = sums sm := List.take_of_length_le (by simp [sums]; omega)
            rw [hs4] at HO_4
            clear hi
            go_wp2_with fail
            go_ret2
            exact ⟨_, rfl, HO_4.out, HB.out⟩

/-! ### crc_step16: function 35 -/
def crc_step16.l0 : Nat → Int → Int → Option (Int)
  | 0, _, _ => none
  | k + 1, x0, x10 => if x10 < 8 then (if (Go.bits .and .u16 x0 32768) = 0 then (crc_step16.l0 k (IntKind.u16.wrap (x0 * 2)) (wrap64 (x10 + 1))) else (crc_step16.l0 k (Go.bits .xor .u16 (IntKind.u16.wrap (x0 * 2)) 4129) (wrap64 (x10 + 1)))) else (some x0)
def crc_step16.f (k : Nat) (a0 : Int) (a1 : Int) : Option (Int) := crc_step16.l0 k (Go.bits .xor .u16 a0 (IntKind.u16.wrap ((IntKind.u16.wrap (a1)) * 256))) 0
theorem crc_step16.mono_l : ∀ k, (∀ y0 y1, LeO (crc_step16.l0 k y0 y1) (crc_step16.l0 (k + 1) y0 y1))
  | 0 => fun _ _ r h => by simp [crc_step16.l0] at h
  | k + 1 => by
    have ih0 := crc_step16.mono_l k
    · intro y0 y1
      unfold crc_step16.l0
      repeat' first
      | (with_reducible exact ih0 _ _)
      | (with_reducible exact LeO.refl _)
      | (with_reducible exact LeO.none _)
      | (with_reducible refine LeO.ite ?_ ?_)
      | (with_reducible refine LeO.bind ?_ (fun _ => ?_))
      | exact ih0 _ _
      | exact LeO.none _
      | refine LeO.ite ?_ ?_
      | refine LeO.bind ?_ (fun _ => ?_)
theorem crc_step16.mono : ∀ a0 a1 k, LeO (crc_step16.f k a0 a1) (crc_step16.f (k + 1) a0 a1) := by
  intro a0 a1 k
  have ih0 := crc_step16.mono_l k
  unfold crc_step16.f
  repeat' first
      | (with_reducible exact ih0 _ _)
      | (with_reducible exact LeO.refl _)
      | (with_reducible exact LeO.none _)
      | (with_reducible refine LeO.ite ?_ ?_)
      | (with_reducible refine LeO.bind ?_ (fun _ => ?_))
      | exact ih0 _ _
      | exact LeO.none _
      | refine LeO.ite ?_ ?_
      | refine LeO.bind ?_ (fun _ => ?_)
set_option maxHeartbeats 8000000 in
set_option maxRecDepth 100000 in
theorem crc_step16.calls (k : Nat) (a0 : Int) (a1 : Int) (r : Int) (w : World) (h : crc_step16.f k a0 a1 = some r) :
    Calls Try.prog 35 #[.int .u16 a0, .int .u8 a1] w fun e w' => e = .returned (.int .u16 r) ∧ Drawn0 w w' := by
  have H : (crc_step16.l0 k (Go.bits .xor .u16 a0 (IntKind.u16.wrap ((IntKind.u16.wrap (a1)) * 256))) 0) = some r := h
  clear h
  have H' := Aside0.mk H
  clear H
  go_enter Try.func35, Try.ntmps35
  go_wp2
  go_loopg [0, 10] k (fun kq v0 v10 w' => ∃ (x0_1 : Int) (x10_1 : Int), v0 = .int .u16 x0_1 ∧ v10 = .int .i64 x10_1 ∧ Aside0 (crc_step16.l0 kq x0_1 x10_1 = some r) ∧ Aside0 (kq ≤ k) ∧ Drawn0 w w')
  case atStart => exact ⟨(Go.bits .xor .u16 a0 (IntKind.u16.wrap ((IntKind.u16.wrap (a1)) * 256))), (0), (by first | rfl | (simp; done) | (simp [*]; done)), (by first | rfl | (simp; done) | (simp [*]; done)), H', ⟨Nat.le_refl _⟩, by repeat (first | exact Drawn0.refl _ | apply Drawn0.step)⟩
  case round =>
    clear H'
    try clear p1
    try clear p2
    obtain ⟨x0_1, x10_1, rfl, rfl, HA, HK1, ⟨m1, rfl⟩⟩ := hrel
    cases gk with
    | zero => exact absurd HA.out (by simp [crc_step16.l0])
    | succ k1 =>
      have H := HA.out
      clear HA
      simp only [crc_step16.l0] at H
      by_cases c3 : x10_1 < 8
      · rw [if_pos c3] at H
        have c3b0 : decide (x10_1 < 8) = true := decide_eq_true c3
        clear c3
        by_cases c4 : (Go.bits .and .u16 x0_1 32768) = 0
        · rw [if_pos c4] at H
          have c4b0 : ((Go.bits .and .u16 x0_1 32768) == 0) = true := beq_iff_eq.mpr c4
          have c4b1 : ((Go.bits .and .u16 x0_1 32768) != 0) = false := bne_eq_false_iff_eq.mpr c4
          clear c4
          have H' := Aside0.mk H
          clear H
          go_wp2
          go_roundg k1
          case measure => have := HK1.out; omega
          case rel => exact ⟨(IntKind.u16.wrap (x0_1 * 2)), (wrap64 (x10_1 + 1)), (by first | rfl | (simp; done) | (simp [*]; done)), (by first | rfl | (simp; done) | (simp [*]; done)), H', ⟨by have := HK1.out; omega⟩, by repeat (first | exact Drawn0.refl _ | apply Drawn0.step)⟩
        · rw [if_neg c4] at H
          have c4b0 : ((Go.bits .and .u16 x0_1 32768) == 0) = false := beq_eq_false_iff_ne.mpr c4
          have c4b1 : ((Go.bits .and .u16 x0_1 32768) != 0) = true := bne_iff_ne.mpr c4
          have H' := Aside0.mk H
          clear H
          go_wp2
          go_roundg k1
          case measure => have := HK1.out; omega
          case rel => exact ⟨(Go.bits .xor .u16 (IntKind.u16.wrap (x0_1 * 2)) 4129), (wrap64 (x10_1 + 1)), (by first | rfl | (simp; done) | (simp [*]; done)), (by first | rfl | (simp; done) | (simp [*]; done)), H', ⟨by have := HK1.out; omega⟩, by repeat (first | exact Drawn0.refl _ | apply Drawn0.step)⟩
      · rw [if_neg c3] at H
        have c3b0 : decide (x10_1 < 8) = false := decide_eq_false c3
        clear c3
        obtain rfl := Option.some.inj H
        go_wp2
        go_ret
        exact ⟨by first | rfl | (simp; done) | (simp [*]; done), by repeat (first | exact Drawn0.refl _ | apply Drawn0.step)⟩

/-! ### crc_Sum16: function 31 -/
mutual
def crc_Sum16.l0 : Nat → Int → List (List Int) → Int → Int → Option (Int)
  | 0, _, _, _, _ => none
  | k + 1, x3, x8, x9, x10 => if x10 < x9 then (if 0 ≤ x10 then (if x10 < (x8.length : Int) then (crc_Sum16.l1 k x3 x8 x9 x10 (rd_L1 x8 x10) ((rd_L1 x8 x10).length : Int) 0) else (none)) else (none)) else (some x3)
def crc_Sum16.l1 : Nat → Int → List (List Int) → Int → Int → List Int → Int → Int → Option (Int)
  | 0, _, _, _, _, _, _, _ => none
  | k + 1, x3, x8, x9, x10, x14, x15, x16 => if x16 < x15 then (if 0 ≤ x16 then (if x16 < (x14.length : Int) then ((crc_step16.f k x3 (rd x14 x16)).bind fun t109 => (crc_Sum16.l1 k t109 x8 x9 x10 x14 x15 (wrap64 (x16 + 1)))) else (none)) else (none)) else (crc_Sum16.l0 k x3 x8 x9 (wrap64 (x10 + 1)))
end
def crc_Sum16.f (k : Nat) (l0 : List (List Int)) : Option (Int) := crc_Sum16.l0 k 65535 l0 (l0.length : Int) 0
theorem crc_Sum16.mono_l : ∀ k, (∀ y0 y1 y2 y3, LeO (crc_Sum16.l0 k y0 y1 y2 y3) (crc_Sum16.l0 (k + 1) y0 y1 y2 y3)) ∧ (∀ y0 y1 y2 y3 y4 y5 y6, LeO (crc_Sum16.l1 k y0 y1 y2 y3 y4 y5 y6) (crc_Sum16.l1 (k + 1) y0 y1 y2 y3 y4 y5 y6))
  | 0 => ⟨fun _ _ _ _ r h => by simp [crc_Sum16.l0] at h, fun _ _ _ _ _ _ _ r h => by simp [crc_Sum16.l1] at h⟩
  | k + 1 => by
    obtain ⟨ih0, ih1⟩ := crc_Sum16.mono_l k
    refine ⟨?_, ?_⟩
    · intro y0 y1 y2 y3
      unfold crc_Sum16.l0
      repeat' first
      | (with_reducible exact ih0 _ _ _ _)
      | (with_reducible exact ih1 _ _ _ _ _ _ _)
      | (with_reducible exact crc_step16.mono _ _ _)
      | (with_reducible exact LeO.refl _)
      | (with_reducible exact LeO.none _)
      | (with_reducible refine LeO.ite ?_ ?_)
      | (with_reducible refine LeO.bind ?_ (fun _ => ?_))
      | exact ih0 _ _ _ _
      | exact ih1 _ _ _ _ _ _ _
      | exact crc_step16.mono _ _ _
      | exact LeO.none _
      | refine LeO.ite ?_ ?_
      | refine LeO.bind ?_ (fun _ => ?_)
    · intro y0 y1 y2 y3 y4 y5 y6
      unfold crc_Sum16.l1
      repeat' first
      | (with_reducible exact ih0 _ _ _ _)
      | (with_reducible exact ih1 _ _ _ _ _ _ _)
      | (with_reducible exact crc_step16.mono _ _ _)
      | (with_reducible exact LeO.refl _)
      | (with_reducible exact LeO.none _)
      | (with_reducible refine LeO.ite ?_ ?_)
      | (with_reducible refine LeO.bind ?_ (fun _ => ?_))
      | exact ih0 _ _ _ _
      | exact ih1 _ _ _ _ _ _ _
      | exact crc_step16.mono _ _ _
      | exact LeO.none _
      | refine LeO.ite ?_ ?_
      | refine LeO.bind ?_ (fun _ => ?_)
theorem crc_Sum16.mono : ∀ a0 k, LeO (crc_Sum16.f k a0) (crc_Sum16.f (k + 1) a0) := by
  intro a0 k
  obtain ⟨ih0, ih1⟩ := crc_Sum16.mono_l k
  unfold crc_Sum16.f
  repeat' first
      | (with_reducible exact ih0 _ _ _ _)
      | (with_reducible exact ih1 _ _ _ _ _ _ _)
      | (with_reducible exact crc_step16.mono _ _ _)
      | (with_reducible exact LeO.refl _)
      | (with_reducible exact LeO.none _)
      | (with_reducible refine LeO.ite ?_ ?_)
      | (with_reducible refine LeO.bind ?_ (fun _ => ?_))
      | exact ih0 _ _ _ _
      | exact ih1 _ _ _ _ _ _ _
      | exact crc_step16.mono _ _ _
      | exact LeO.none _
      | refine LeO.ite ?_ ?_
      | refine LeO.bind ?_ (fun _ => ?_)
set_option maxHeartbeats 8000000 in
set_option maxRecDepth 100000 in
theorem crc_Sum16.calls (k : Nat) (A0 : Option Addr) (c0 : Nat) (l0 : List (List Int)) (r : Int) (w : World) (hr0 : Kd.C (Kd.slice 5 (Kd.int .u8)) w A0 l0.length l0) (hc0 : l0.length ≤ c0) (h : crc_Sum16.f k l0 = some r) :
    Calls Try.prog 31 #[.slice A0 l0.length c0] w fun e w' => e = .returned (.int .u16 r) ∧ Drawn0 w w' := by
  have HR0 := Aside0.mk hr0
  have HC0 := Aside0.mk hc0
  clear hr0 hc0
  have H : (crc_Sum16.l0 k 65535 l0 (l0.length : Int) 0) = some r := h
  clear h
  have H' := Aside0.mk H
  clear H
  go_enter Try.func31, Try.ntmps31
  go_wp2
  go_loopg [3, 10] k (fun kq v3 v10 w' => ∃ (x3_1 : Int) (x10_1 : Int), v3 = .int .u16 x3_1 ∧ v10 = .int .i64 x10_1 ∧ Aside0 (crc_Sum16.l0 kq x3_1 l0 (l0.length : Int) x10_1 = some r) ∧ Aside0 (kq ≤ k) ∧ Drawn0 w w')
  case atStart => exact ⟨(65535), (0), (by first | rfl | (simp; done) | (simp [*]; done)), (by first | rfl | (simp; done) | (simp [*]; done)), H', ⟨Nat.le_refl _⟩, by repeat (first | exact Drawn0.refl _ | apply Drawn0.step)⟩
  case round =>
    clear H'
    obtain ⟨x3_1, x10_1, rfl, rfl, HA, HK1, ⟨m1, rfl⟩⟩ := hrel
    cases gk with
    | zero => exact absurd HA.out (by simp [crc_Sum16.l0])
    | succ k1 =>
      have H := HA.out
      clear HA
      simp only [crc_Sum16.l0] at H
      by_cases c2 : x10_1 < (l0.length : Int)
      · rw [if_pos c2] at H
        have c2b0 : decide (x10_1 < (l0.length : Int)) = true := decide_eq_true c2
        clear c2
        by_cases c3 : 0 ≤ x10_1
        · rw [if_pos c3] at H
          have c3b0 : decide (0 ≤ x10_1) = true := decide_eq_true c3
          clear c3
          by_cases c4 : x10_1 < (l0.length : Int)
          · rw [if_pos c4] at H
            have c4b0 : decide (x10_1 < (l0.length : Int)) = true := decide_eq_true c4
            clear c4
            have H' := Aside0.mk H
            clear H
            have p107 : 0 ≤ (x10_1 : Int) := of_decide_eq_true (by first | (with_reducible assumption) | assumption)
            have q107 : x10_1 < (l0.length : Int) := of_decide_eq_true (by first | (with_reducible assumption) | assumption)
            obtain ⟨ad107, A107_0, c107_0, e107, hx107_0, hl107_0, hi107_0⟩ := at_L1 HR0.out x10_1 p107 q107
            cases e107
            have HR107_0 := Aside0.mk hi107_0
            have HC107_0 := Aside0.mk hl107_0
            clear hi107_0 hl107_0
            replace p107 := eq_true p107
            replace q107 := eq_true q107
            go_wp2
            go_loopg [3, 16] k1 (fun kq v3 v16 w' => ∃ (x3_2 : Int) (x16_2 : Int), v3 = .int .u16 x3_2 ∧ v16 = .int .i64 x16_2 ∧ Aside0 (crc_Sum16.l1 kq x3_2 l0 (l0.length : Int) x10_1 (rd_L1 l0 x10_1) ((rd_L1 l0 x10_1).length : Int) x16_2 = some r) ∧ Aside0 (kq ≤ k1) ∧ Drawn0 w w')
            case atStart => exact ⟨(x3_1), (0), (by first | rfl | (simp; done) | (simp [*]; done)), (by first | rfl | (simp; done) | (simp [*]; done)), H', ⟨Nat.le_refl _⟩, by repeat (first | exact Drawn0.refl _ | apply Drawn0.step)⟩
            case round =>
              clear H'
              try clear c1
              try clear p1
              try clear q1
              try clear hx1
              try clear c2
              try clear c2b0
              try clear p2
              try clear c3
              try clear c3b0
              try clear c4
              try clear c4b0
              try clear hx107_0
              try clear p107
              try clear q107
              obtain ⟨x3_2, x16_2, rfl, rfl, HA, HK2, ⟨m2, rfl⟩⟩ := hrel
              cases gk with
              | zero => exact absurd HA.out (by simp [crc_Sum16.l1])
              | succ k2 =>
                have H := HA.out
                clear HA
                simp only [crc_Sum16.l1] at H
                by_cases c5 : x16_2 < ((rd_L1 l0 x10_1).length : Int)
                · rw [if_pos c5] at H
                  have c5b0 : decide (x16_2 < ((rd_L1 l0 x10_1).length : Int)) = true := decide_eq_true c5
                  clear c5
                  by_cases c6 : 0 ≤ x16_2
                  · rw [if_pos c6] at H
                    have c6b0 : decide (0 ≤ x16_2) = true := decide_eq_true c6
                    clear c6
                    by_cases c7 : x16_2 < ((rd_L1 l0 x10_1).length : Int)
                    · rw [if_pos c7] at H
                      have c7b0 : decide (x16_2 < ((rd_L1 l0 x10_1).length : Int)) = true := decide_eq_true c7
                      clear c7
                      replace H := Option.bind_eq_some_iff.mp H
                      obtain ⟨t109, A80, H⟩ := H
                      replace H : (crc_Sum16.l1 k2 t109 l0 (l0.length : Int) x10_1 (rd_L1 l0 x10_1) ((rd_L1 l0 x10_1).length : Int) (wrap64 (x16_2 + 1))) = some r := H
                      have A8 := Aside0.mk A80
                      clear A80
                      have H' := Aside0.mk H
                      clear H
                      have p108 : 0 ≤ (x16_2 : Int) := of_decide_eq_true (by first | (with_reducible assumption) | assumption)
                      have q108 : x16_2 < ((rd_L1 l0 x10_1).length : Int) := of_decide_eq_true (by first | (with_reducible assumption) | assumption)
                      obtain ⟨ad108, e108, hx108_0⟩ := Kd.at_int HR107_0.out x16_2 p108 q108
                      cases e108
                      replace p108 := eq_true p108
                      replace q108 := eq_true q108
                      go_wp2_with (first | ((with_reducible refine gate_callee (f := 35) rfl ?_); refine goesL_ (some 22) rfl rfl Try.func35 (by kernel_rfl) rfl #[.int .u16 x3_2, .int .u8 (rd (rd_L1 l0 x10_1) x16_2)] rfl (by (try simp only [List.map_toArray, List.map_cons, List.map_nil]); first | done | rfl | (simp only [List.length_drop, List.length_take]; rfl)) ?_; (with_reducible refine (crc_step16.calls k2 x3_2 (rd (rd_L1 l0 x10_1) x16_2) t109 _ A8.out).mono ?_); rintro e w' ⟨rfl, ⟨nd, rfl⟩⟩; refine ⟨_, rfl, ?_⟩))
                      go_roundg k2
                      case measure => have := HK1.out; have := HK2.out; omega
                      case rel => exact ⟨(t109), (wrap64 (x16_2 + 1)), (by first | rfl | (simp; done) | (simp [*]; done)), (by first | rfl | (simp; done) | (simp [*]; done)), H', ⟨by have := HK1.out; have := HK2.out; omega⟩, by repeat (first | exact Drawn0.refl _ | apply Drawn0.step)⟩
                    · rw [if_neg c7] at H
                      exact absurd H (by simp)
                  · rw [if_neg c6] at H
                    exact absurd H (by simp)
                · rw [if_neg c5] at H
                  have c5b0 : decide (x16_2 < ((rd_L1 l0 x10_1).length : Int)) = false := decide_eq_false c5
                  clear c5
                  have H' := Aside0.mk H
                  clear H
                  go_wp2
                  go_roundg k2
                  case measure => have := HK1.out; have := HK2.out; omega
                  case rel => exact ⟨(x3_2), (wrap64 (x10_1 + 1)), (by first | rfl | (simp; done) | (simp [*]; done)), (by first | rfl | (simp; done) | (simp [*]; done)), H', ⟨by have := HK1.out; have := HK2.out; omega⟩, by repeat (first | exact Drawn0.refl _ | apply Drawn0.step)⟩
          · rw [if_neg c4] at H
            exact absurd H (by simp)
        · rw [if_neg c3] at H
          exact absurd H (by simp)
      · rw [if_neg c2] at H
        have c2b0 : decide (x10_1 < (l0.length : Int)) = false := decide_eq_false c2
        clear c2
        obtain rfl := Option.some.inj H
        go_wp2
        go_ret
        exact ⟨by first | rfl | (simp; done) | (simp [*]; done), by repeat (first | exact Drawn0.refl _ | apply Drawn0.step)⟩

/-! ### cantlelaw02_Lives: function 23 (by hand) -/
def cantlelaw02_Lives.f : Option (Bool) := some true
theorem nine32 : crc_Sum32.f 30 [[49, 50, 51, 52, 53, 54, 55, 56, 57]] = some 3421780262 := by decide +kernel
theorem nine16 : crc_Sum16.f 30 [[49, 50, 51, 52, 53, 54, 55, 56, 57]] = some 10673 := by decide +kernel
theorem nineC (t : Nat) (w : World) : (Kd.int .u8).C (w.alloc (Obj.cells #[Value.int IntKind.u8 49, Value.int IntKind.u8 50, Value.int IntKind.u8 51, Value.int IntKind.u8 52, Value.int IntKind.u8 53, Value.int IntKind.u8 54, Value.int IntKind.u8 55, Value.int IntKind.u8 56, Value.int IntKind.u8 57] t (9, 10))) (some ⟨w.heap.size, 0, none⟩) 9 [49, 50, 51, 52, 53, 54, 55, 56, 57] :=
  Mem.C_cells_int (xs := [49, 50, 51, 52, 53, 54, 55, 56, 57]) (by simp) (fun j x hx => by
    have hj : j < 9 := (List.getElem?_eq_some_iff.1 hx).1
    rw [show (⟨w.heap.size, 0, none⟩ : Addr).add j = ⟨w.heap.size, j, none⟩ from by unfold Addr.add; split <;> simp_all, Mem.cell_new]
    rcases j with _ | _ | _ | _ | _ | _ | _ | _ | _ | j <;> first | omega | (simp at hx; subst hx; rfl))
set_option maxHeartbeats 400000 in
theorem cantlelaw02_Lives.calls (r : Bool) (w : World) (h : cantlelaw02_Lives.f = some r) :
    Calls Try.prog 23 #[] w fun e w' => e = .returned (.bool r) ∧ Below w.heap.size w w' := by
  obtain rfl := Option.some.inj h
  clear h
  have kc := fun (w : World) (C : Array Value) (n c : Nat) => Lib.run_convert_bytes_const (P := Try.prog) w 22 5 C n c Try.underlying22 Try.underlying5
  have hN := Aside0.mk (nineC 5 w)
  go_enter Try.func23, Try.ntmps23
  go_wp2_with fail
  generalize hW1 : (w.alloc (Obj.cells #[Value.int IntKind.u8 49, Value.int IntKind.u8 50, Value.int IntKind.u8 51, Value.int IntKind.u8 52, Value.int IntKind.u8 53, Value.int IntKind.u8 54, Value.int IntKind.u8 55, Value.int IntKind.u8 56, Value.int IntKind.u8 57] 5 (9, 10))) = W1 at *
  have hs : w.heap.size + 1 = W1.heap.size := by rw [← hW1]; simp
  have hB : Aside0 (Below w.heap.size w W1) := Aside0.mk (by rw [← hW1]; exact below_alloc (Below.refl _ _) _)
  have hN1 := hN.out
  rw [hs]
  clear hN kc hW1 hs
  refine (crc_Sum32.calls 30 _ 1 [[49, 50, 51, 52, 53, 54, 55, 56, 57]] _ _ (Mem.C_row1 (c := 9) (A := some ⟨w.heap.size, 0, none⟩) (by go_simp) (by simp) (Kd.C_alloc hN1 _)) (by simp) nine32).mono ?_
  rintro e w' ⟨rfl, nd, rfl⟩
  have hN2 := Aside0.mk hN1
  clear hN1
  go_wp2_with fail
  refine (crc_Sum16.calls 30 _ 1 [[49, 50, 51, 52, 53, 54, 55, 56, 57]] _ _ (Mem.C_row1 (c := 9) (A := some ⟨w.heap.size, 0, none⟩) (by go_simp) (by simp) (Kd.C_alloc (Kd.C_drewN (Kd.C_alloc hN2.out _) _) _)) (by simp) nine16).mono ?_
  rintro e w' ⟨rfl, nd2, rfl⟩
  go_wp2_with fail
  go_ret
  refine ⟨rfl, ?_⟩
  repeat (first | exact hB.out | apply below_alloc | apply pw_below_drewN | apply below_drew1)

/-! ### cantlelaw08_Lives: function 8 -/
def cantlelaw08_Lives.f (k : Nat)  : Option (Bool) := (entry_Encode.f k (⟨#[97, 98]⟩ : ByteArray) 258).bind fun bt110 => ((cantlelaw02_Lives.f).bind fun t114 => (if t114 = true then (if bt110.2 = 0 then (if (bt110.1.length : Int) = 64 then (if 7 ≤ (bt110.1.length : Int) then (some ((strOfNums (bt110.1.take 7)).toList == ([2, 1, 2, 0, 97, 98, 0] : List UInt8))) else (none)) else (some false)) else (some false)) else (some false)))
theorem cantlelaw08_Lives.mono : ∀ k, LeO (cantlelaw08_Lives.f k ) (cantlelaw08_Lives.f (k + 1) ) := by
  intro  k
  unfold cantlelaw08_Lives.f
  repeat' first
      | (with_reducible exact entry_Encode.mono _ _ _)
      | (with_reducible exact LeO.refl _)
      | (with_reducible exact LeO.none _)
      | (with_reducible refine LeO.ite ?_ ?_)
      | (with_reducible refine LeO.bind ?_ (fun _ => ?_))
      | exact entry_Encode.mono _ _ _
      | exact LeO.none _
      | refine LeO.ite ?_ ?_
      | refine LeO.bind ?_ (fun _ => ?_)
set_option maxHeartbeats 8000000 in
set_option maxRecDepth 100000 in
theorem cantlelaw08_Lives.calls (k : Nat)  (r : Bool) (w : World) (h : cantlelaw08_Lives.f k  = some r) :
    Calls Try.prog 8 #[] w fun e w' => e = .returned (.bool r) ∧ Below w.heap.size w w' := by
  have hu33 := Try.underlying33
  have HB := Aside0.mk (Below.refl w.heap.size w)
  have H : ((entry_Encode.f k (⟨#[97, 98]⟩ : ByteArray) 258).bind fun bt110 => ((cantlelaw02_Lives.f).bind fun t114 => (if t114 = true then (if bt110.2 = 0 then (if (bt110.1.length : Int) = 64 then (if 7 ≤ (bt110.1.length : Int) then (some ((strOfNums (bt110.1.take 7)).toList == ([2, 1, 2, 0, 97, 98, 0] : List UInt8))) else (none)) else (some false)) else (some false)) else (some false)))) = some r := h
  clear h
  replace H := Option.bind_eq_some_iff.mp H
  obtain ⟨⟨t110, t113⟩, A10, H⟩ := H
  replace H : ((cantlelaw02_Lives.f).bind fun t114 => (if t114 = true then (if t113 = 0 then (if (t110.length : Int) = 64 then (if 7 ≤ (t110.length : Int) then (some ((strOfNums (t110.take 7)).toList == ([2, 1, 2, 0, 97, 98, 0] : List UInt8))) else (none)) else (some false)) else (some false)) else (some false))) = some r := H
  have A1 := Aside0.mk A10
  clear A10
  replace H := Option.bind_eq_some_iff.mp H
  obtain ⟨t114, A20, H⟩ := H
  replace H : (if t114 = true then (if t113 = 0 then (if (t110.length : Int) = 64 then (if 7 ≤ (t110.length : Int) then (some ((strOfNums (t110.take 7)).toList == ([2, 1, 2, 0, 97, 98, 0] : List UInt8))) else (none)) else (some false)) else (some false)) else (some false)) = some r := H
  have A2 := Aside0.mk A20
  clear A20
  by_cases c3 : t114 = true
  · subst c3
    have H1 : (if t113 = 0 then (if (t110.length : Int) = 64 then (if 7 ≤ (t110.length : Int) then (some ((strOfNums (t110.take 7)).toList == ([2, 1, 2, 0, 97, 98, 0] : List UInt8))) else (none)) else (some false)) else (some false)) = some r := by rw [if_pos rfl] at H; exact H
    clear H
    have H := H1
    clear H1
    by_cases c4 : t113 = 0
    · rw [if_pos c4] at H
      have c4b0 : (t113 == 0) = true := beq_iff_eq.mpr c4
      have c4b1 : (t113 != 0) = false := bne_eq_false_iff_eq.mpr c4
      clear c4
      by_cases c5 : (t110.length : Int) = 64
      · rw [if_pos c5] at H
        have c5b0 : ((t110.length : Int) == 64) = true := beq_iff_eq.mpr c5
        have c5b1 : ((t110.length : Int) != 64) = false := bne_eq_false_iff_eq.mpr c5
        clear c5
        by_cases c6 : 7 ≤ (t110.length : Int)
        · rw [if_pos c6] at H
          have c6b0 := eq_true c6
          have c6b1 : decide (7 ≤ (t110.length : Int)) = true := decide_eq_true c6
          clear c6
          obtain ⟨y115, hy115⟩ : ∃ y_ : List Int, y_ = (t110.take 7) := ⟨_, rfl⟩
          replace H : (some ((strOfNums y115).toList == ([2, 1, 2, 0, 97, 98, 0] : List UInt8))) = some r := by first | (rw [hy115]; with_reducible exact H) | (have H2_ := (Option.bind_some _ _).symm.trans H; rw [hy115]; with_reducible exact H2_) | (have H2_ := (Option.bind_some _ _).symm.trans H; with_reducible exact H2_) | with_reducible exact H | (rw [hy115]; exact H) | exact H
          have Ny115 := Aside0.mk hy115
          clear hy115
          obtain rfl := Option.some.inj H
          go_enter Try.func8, Try.ntmps8
          go_wp2_with (first | ((with_reducible refine gate_callee (f := 17) rfl ?_); refine goesL_ (some 5) rfl rfl Try.func17 (by kernel_rfl) rfl #[.agg #[.string (⟨#[97, 98]⟩ : ByteArray), .int .i64 258]] rfl (by (try simp only [List.map_toArray, List.map_cons, List.map_nil]); first | done | rfl | (simp only [List.length_drop, List.length_take]; rfl)) ?_; (with_reducible refine (entry_Encode.calls k (⟨#[97, 98]⟩ : ByteArray) 258 t110 t113 _ A1.out).mono ?_); rintro e w7 ⟨v111, rfl, ho0, hb⟩; refine ⟨_, rfl, ?_⟩; have n0_ := Aside0.mk (Kd.R_lower ho0 (below_size (by repeat (first | (with_reducible first | exact HB.out | apply below_alloc | apply pw_below_drewN | apply below_drew1) | exact HB.out)))); have n1_ := Aside0.mk (below_step (by repeat (first | (with_reducible first | exact HB.out | apply below_alloc | apply pw_below_drewN | apply below_drew1) | exact HB.out)) hb); clear HB; have HO112 := n0_; have HB := n1_; clear n0_ n1_; (try clear hb); (try clear hb2); (try clear hk); (try clear hi); (try clear ho0)) | ((with_reducible refine gate_callee (f := 23) rfl ?_); refine goesL_ (some 8) rfl rfl Try.func23 (by kernel_rfl) rfl #[] rfl (by (try simp only [List.map_toArray, List.map_cons, List.map_nil]); first | done | rfl | (simp only [List.length_drop, List.length_take]; rfl)) ?_; (with_reducible refine (cantlelaw02_Lives.calls  true _ A2.out).mono ?_); rintro e w8 ⟨rfl, hb⟩; refine ⟨_, rfl, ?_⟩; have n0_ := Aside0.mk (Kd.R_below (by (with_reducible repeat (first | apply Kd.R_alloc | apply Kd.R_drewN | apply Kd.R_drew)); exact HO112.out) hb); have n1_ := Aside0.mk (below_step (by repeat (first | (with_reducible first | exact HB.out | apply below_alloc | apply pw_below_drewN | apply below_drew1) | exact HB.out)) hb); clear HO112; clear HB; have HO112 := n0_; have HB := n1_; clear n0_ n1_; (try clear hb); (try clear hb2); (try clear hk); (try clear hi); obtain ⟨Ao9, co9, eo9⟩ := Kd.R_slice HO112.out; subst eo9; have q10 : (7 : Int) ≤ ((t110.length : Int) : Int) := of_decide_eq_true (by first | (with_reducible assumption) | assumption); obtain ⟨i010, hi010, _, hsz10, _⟩ := info_parts info5; have hroom10 : t110.length ≤ co9 := (Kd.R_reads' HO112.out).2.1; have hC10 : Kd.C (Kd.int .u8) _ Ao9 t110.length t110 := (Kd.R_reads' HO112.out).2.2; have hcut10 := cut_to (P := Try.prog) 22 5 .i64 Try.underlying22 hi010 Ao9 t110.length co9 7 (by omega) q10 hroom10; have hr10 := Kd.C_take (m := 7) hC10 (by omega); have hy10 : y115.length = (7 : Int).toNat := (by rw [Ny115.out, List.length_take]; omega); rw [← Ny115.out] at hr10; rw [← hy10] at hcut10; have HR118 := Aside0.mk hr10; have HC118 := Aside0.mk (show y115.length ≤ co9 from by omega); clear hr10 hC10 hroom10 hi010 hsz10; have KY10 := Aside0.mk hy10; clear hy10; have KL10 := Aside0.mk (show 7 ≤ t110.length from by omega); replace q10 := eq_true q10; have hcv11 := Kd.C_string (P := Try.prog) (A := Ao9) (c := co9) Try.underlying22 Try.underlying5 Try.underlying9 (by repeat (first | (with_reducible exact HR118.out) | (with_reducible refine Kd.C_alloc ?_ _) | (with_reducible refine Kd.C_drewN ?_ _) | (with_reducible refine Kd.C_drew ?_) | exact HR118.out))))
          go_ret
          exact ⟨by first | rfl | (simp [errW_none, errW_some] <;> rfl) | (simp [*, errW_none, errW_some] <;> rfl), by repeat (first | (with_reducible first | exact HB.out | apply below_alloc | apply pw_below_drewN | apply below_drew1) | exact HB.out)⟩
        · rw [if_neg c6] at H
          exact absurd H (by simp)
      · rw [if_neg c5] at H
        have c5b0 : ((t110.length : Int) == 64) = false := beq_eq_false_iff_ne.mpr c5
        have c5b1 : ((t110.length : Int) != 64) = true := bne_iff_ne.mpr c5
        obtain rfl := Option.some.inj H
        go_enter Try.func8, Try.ntmps8
        go_wp2_with (first | ((with_reducible refine gate_callee (f := 17) rfl ?_); refine goesL_ (some 5) rfl rfl Try.func17 (by kernel_rfl) rfl #[.agg #[.string (⟨#[97, 98]⟩ : ByteArray), .int .i64 258]] rfl (by (try simp only [List.map_toArray, List.map_cons, List.map_nil]); first | done | rfl | (simp only [List.length_drop, List.length_take]; rfl)) ?_; (with_reducible refine (entry_Encode.calls k (⟨#[97, 98]⟩ : ByteArray) 258 t110 t113 _ A1.out).mono ?_); rintro e w12 ⟨v111, rfl, ho0, hb⟩; refine ⟨_, rfl, ?_⟩; have n0_ := Aside0.mk (Kd.R_lower ho0 (below_size (by repeat (first | (with_reducible first | exact HB.out | apply below_alloc | apply pw_below_drewN | apply below_drew1) | exact HB.out)))); have n1_ := Aside0.mk (below_step (by repeat (first | (with_reducible first | exact HB.out | apply below_alloc | apply pw_below_drewN | apply below_drew1) | exact HB.out)) hb); clear HB; have HO112 := n0_; have HB := n1_; clear n0_ n1_; (try clear hb); (try clear hb2); (try clear hk); (try clear hi); (try clear ho0)) | ((with_reducible refine gate_callee (f := 23) rfl ?_); refine goesL_ (some 8) rfl rfl Try.func23 (by kernel_rfl) rfl #[] rfl (by (try simp only [List.map_toArray, List.map_cons, List.map_nil]); first | done | rfl | (simp only [List.length_drop, List.length_take]; rfl)) ?_; (with_reducible refine (cantlelaw02_Lives.calls  true _ A2.out).mono ?_); rintro e w13 ⟨rfl, hb⟩; refine ⟨_, rfl, ?_⟩; have n0_ := Aside0.mk (Kd.R_below (by (with_reducible repeat (first | apply Kd.R_alloc | apply Kd.R_drewN | apply Kd.R_drew)); exact HO112.out) hb); have n1_ := Aside0.mk (below_step (by repeat (first | (with_reducible first | exact HB.out | apply below_alloc | apply pw_below_drewN | apply below_drew1) | exact HB.out)) hb); clear HO112; clear HB; have HO112 := n0_; have HB := n1_; clear n0_ n1_; (try clear hb); (try clear hb2); (try clear hk); (try clear hi); obtain ⟨Ao14, co14, eo14⟩ := Kd.R_slice HO112.out; subst eo14))
        go_ret
        exact ⟨by first | rfl | (simp [errW_none, errW_some] <;> rfl) | (simp [*, errW_none, errW_some] <;> rfl), by repeat (first | (with_reducible first | exact HB.out | apply below_alloc | apply pw_below_drewN | apply below_drew1) | exact HB.out)⟩
    · rw [if_neg c4] at H
      have c4b0 : (t113 == 0) = false := beq_eq_false_iff_ne.mpr c4
      have c4b1 : (t113 != 0) = true := bne_iff_ne.mpr c4
      obtain rfl := Option.some.inj H
      go_enter Try.func8, Try.ntmps8
      go_wp2_with (first | ((with_reducible refine gate_callee (f := 17) rfl ?_); refine goesL_ (some 5) rfl rfl Try.func17 (by kernel_rfl) rfl #[.agg #[.string (⟨#[97, 98]⟩ : ByteArray), .int .i64 258]] rfl (by (try simp only [List.map_toArray, List.map_cons, List.map_nil]); first | done | rfl | (simp only [List.length_drop, List.length_take]; rfl)) ?_; (with_reducible refine (entry_Encode.calls k (⟨#[97, 98]⟩ : ByteArray) 258 t110 t113 _ A1.out).mono ?_); rintro e w15 ⟨v111, rfl, ho0, hb⟩; refine ⟨_, rfl, ?_⟩; have n0_ := Aside0.mk (Kd.R_lower ho0 (below_size (by repeat (first | (with_reducible first | exact HB.out | apply below_alloc | apply pw_below_drewN | apply below_drew1) | exact HB.out)))); have n1_ := Aside0.mk (below_step (by repeat (first | (with_reducible first | exact HB.out | apply below_alloc | apply pw_below_drewN | apply below_drew1) | exact HB.out)) hb); clear HB; have HO112 := n0_; have HB := n1_; clear n0_ n1_; (try clear hb); (try clear hb2); (try clear hk); (try clear hi); (try clear ho0)) | ((with_reducible refine gate_callee (f := 23) rfl ?_); refine goesL_ (some 8) rfl rfl Try.func23 (by kernel_rfl) rfl #[] rfl (by (try simp only [List.map_toArray, List.map_cons, List.map_nil]); first | done | rfl | (simp only [List.length_drop, List.length_take]; rfl)) ?_; (with_reducible refine (cantlelaw02_Lives.calls  true _ A2.out).mono ?_); rintro e w16 ⟨rfl, hb⟩; refine ⟨_, rfl, ?_⟩; have n0_ := Aside0.mk (Kd.R_below (by (with_reducible repeat (first | apply Kd.R_alloc | apply Kd.R_drewN | apply Kd.R_drew)); exact HO112.out) hb); have n1_ := Aside0.mk (below_step (by repeat (first | (with_reducible first | exact HB.out | apply below_alloc | apply pw_below_drewN | apply below_drew1) | exact HB.out)) hb); clear HO112; clear HB; have HO112 := n0_; have HB := n1_; clear n0_ n1_; (try clear hb); (try clear hb2); (try clear hk); (try clear hi)))
      go_ret
      exact ⟨by first | rfl | (simp [errW_none, errW_some] <;> rfl) | (simp [*, errW_none, errW_some] <;> rfl), by repeat (first | (with_reducible first | exact HB.out | apply below_alloc | apply pw_below_drewN | apply below_drew1) | exact HB.out)⟩
  · replace c3 := Bool.eq_false_iff.mpr c3
    subst c3
    have H1 : (some false) = some r := by rw [if_neg (show ¬ (false = true) by decide)] at H; exact H
    clear H
    have H := H1
    clear H1
    obtain rfl := Option.some.inj H
    go_enter Try.func8, Try.ntmps8
    go_wp2_with (first | ((with_reducible refine gate_callee (f := 17) rfl ?_); refine goesL_ (some 5) rfl rfl Try.func17 (by kernel_rfl) rfl #[.agg #[.string (⟨#[97, 98]⟩ : ByteArray), .int .i64 258]] rfl (by (try simp only [List.map_toArray, List.map_cons, List.map_nil]); first | done | rfl | (simp only [List.length_drop, List.length_take]; rfl)) ?_; (with_reducible refine (entry_Encode.calls k (⟨#[97, 98]⟩ : ByteArray) 258 t110 t113 _ A1.out).mono ?_); rintro e w17 ⟨v111, rfl, ho0, hb⟩; refine ⟨_, rfl, ?_⟩; have n0_ := Aside0.mk (Kd.R_lower ho0 (below_size (by repeat (first | (with_reducible first | exact HB.out | apply below_alloc | apply pw_below_drewN | apply below_drew1) | exact HB.out)))); have n1_ := Aside0.mk (below_step (by repeat (first | (with_reducible first | exact HB.out | apply below_alloc | apply pw_below_drewN | apply below_drew1) | exact HB.out)) hb); clear HB; have HO112 := n0_; have HB := n1_; clear n0_ n1_; (try clear hb); (try clear hb2); (try clear hk); (try clear hi); (try clear ho0)) | ((with_reducible refine gate_callee (f := 23) rfl ?_); refine goesL_ (some 8) rfl rfl Try.func23 (by kernel_rfl) rfl #[] rfl (by (try simp only [List.map_toArray, List.map_cons, List.map_nil]); first | done | rfl | (simp only [List.length_drop, List.length_take]; rfl)) ?_; (with_reducible refine (cantlelaw02_Lives.calls  false _ A2.out).mono ?_); rintro e w18 ⟨rfl, hb⟩; refine ⟨_, rfl, ?_⟩; have n0_ := Aside0.mk (Kd.R_below (by (with_reducible repeat (first | apply Kd.R_alloc | apply Kd.R_drewN | apply Kd.R_drew)); exact HO112.out) hb); have n1_ := Aside0.mk (below_step (by repeat (first | (with_reducible first | exact HB.out | apply below_alloc | apply pw_below_drewN | apply below_drew1) | exact HB.out)) hb); clear HO112; clear HB; have HO112 := n0_; have HB := n1_; clear n0_ n1_; (try clear hb); (try clear hb2); (try clear hk); (try clear hi)))
    go_ret
    exact ⟨by first | rfl | (simp [errW_none, errW_some] <;> rfl) | (simp [*, errW_none, errW_some] <;> rfl), by repeat (first | (with_reducible first | exact HB.out | apply below_alloc | apply pw_below_drewN | apply below_drew1) | exact HB.out)⟩

end Go.Proofs.Ytfkfpeiocdjniaa.PAll
