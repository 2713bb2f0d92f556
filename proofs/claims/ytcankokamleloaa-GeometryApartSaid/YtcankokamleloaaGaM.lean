/- GeometryApart: the row of counts, and the closure that counts words in it. Conditions: as each lemma says. -/
import Derived.Test.YtcankokamleloaaGpM
import Derived.Deep.QuietTactic
import Derived.BigQuiet
namespace Go.Proofs.Ytcankokamleloaa.Ga
open Go.RowKit Go.Proofs.Ytcankokamleloaa Go.Proofs.Ytcankokamleloaa.PAll Go.Proofs.Ytcankokamleloaa.Gp Go.Proofs.YtcankokamleloaaW.PrintWords Go.Proofs.YtcankokamleloaaW.PrintLast Go.Proofs.YtcankokamleloaaW.PrintMore
set_option linter.unusedVariables false
theorem info3 : (Try.prog.info? 3).map (fun i => (i.zero, i.size, i.bytes)) = some (some (.int .i64 0), 1, 8) := by kernel_rfl
/-- The row of n counts is block cb; the variable that names it is block vb. -/
structure Cnt (W : World) (vb cb n : Nat) (f : Nat → Int) : Prop where
  var_ : W.heap[vb]? = some (.cells #[.slice (some ⟨cb, 0, none⟩) n n] 34 (0, 0))
  row : ∃ cs : Array Value, W.heap[cb]? = some (.cells cs 3 (0, 0)) ∧ ∀ i, i < n → cs[i]? = some (.int .i64 (f i))
theorem Cnt.keep {W W' : World} {vb cb n : Nat} {f : Nat → Int} (h : Cnt W vb cb n f) (h1 : W'.heap[vb]? = W.heap[vb]?) (h2 : W'.heap[cb]? = W.heap[cb]?) : Cnt W' vb cb n f := by
  obtain ⟨a, cs, b, c⟩ := h
  exact ⟨h1.trans a, cs, h2.trans b, c⟩
theorem Cnt.congr {W : World} {vb cb n : Nat} {f g : Nat → Int} (h : Cnt W vb cb n f) (e : ∀ i, i < n → f i = g i) : Cnt W vb cb n g := by
  obtain ⟨a, cs, b, c⟩ := h
  exact ⟨a, cs, b, fun i hi => by rw [← e i hi]; exact c i hi⟩
theorem Cnt.ne {W : World} {vb cb n : Nat} {f : Nat → Int} (h : Cnt W vb cb n f) : vb ≠ cb := by
  rintro rfl
  obtain ⟨cs, b, _⟩ := h.row
  have := h.var_.symm.trans b
  simp at this
theorem Cnt.v0 {W : World} {vb cb n : Nat} {f : Nat → Int} (h : Cnt W vb cb n f) : W.cell? ⟨vb, 0, none⟩ = some (.slice (some ⟨cb, 0, none⟩) n n) := by
  rw [blk_cell h.var_]; rfl
theorem Cnt.at_ {W : World} {vb cb n : Nat} {f : Nat → Int} (h : Cnt W vb cb n f) (i : Nat) (hi : i < n) : W.cell? ⟨cb, i, none⟩ = some (.int .i64 (f i)) := by
  obtain ⟨cs, b, c⟩ := h.row
  rw [blk_cell b, c i hi]
theorem Cnt.frozen {W : World} {vb cb n : Nat} {f : Nat → Int} (h : Cnt W vb cb n f) (i : Nat) : W.frozen? ⟨cb, i, none⟩ = false := by
  obtain ⟨cs, b, c⟩ := h.row
  exact blk_frozen b i
theorem Cnt.lt {W : World} {vb cb n : Nat} {f : Nat → Int} (h : Cnt W vb cb n f) : vb < W.heap.size ∧ cb < W.heap.size := by
  obtain ⟨cs, b, c⟩ := h.row
  exact ⟨blk_lt h.var_, blk_lt b⟩
theorem Cnt.set_ {W : World} {vb cb n : Nat} {f : Nat → Int} (h : Cnt W vb cb n f) (q : Nat) (hq : q < n) (x : Int) : Cnt (W.setCell ⟨cb, q, none⟩ (.int .i64 x)) vb cb n (fun i => if i = q then x else f i) := by
  have hne := h.ne
  obtain ⟨a, cs, b, c⟩ := h
  refine ⟨(Below.heap_setCell W ⟨cb, q, none⟩ (.int .i64 x) vb hne).trans a, _, blk_set b q (.int .i64 x), fun i hi => ?_⟩
  have hq2 : q < cs.size := (Array.getElem?_eq_some_iff.1 (c q hq)).1
  rw [Array.getElem?_setIfInBounds]
  by_cases e : q = i
  · subst e; simp [hq2]
  · rw [if_neg e, if_neg (fun h => e h.symm), c i hi]
theorem below_set' {B : Nat} {w W : World} {g : Nat} (h : Below B w W) (hg : B ≤ g) (j : Nat) (v : Value) : Below B w (W.setCell ⟨g, j, none⟩ v) := h.setCell hg _
def mk (f : Nat → Int) (a k : Nat) : Nat → Int := fun i => if a ≤ i ∧ i < a + k then f i + 1 else f i
set_option maxRecDepth 100000 in
set_option maxHeartbeats 4000000 in
theorem mark_calls (B : Nat) (w0 W : World) (vb cb n : Nat) (f : Nat → Int) (a k : Nat) (h : Cnt W vb cb n f) (hn : a + k ≤ n) (hn2 : n ≤ 100000) (hf : ∀ i, i < n → 0 ≤ f i ∧ f i ≤ 10) (hr : a % 8 = 0 ∨ k = 1) (hB : Below B w0 W) (hcb : B ≤ cb) :
    Calls Try.prog 13 #[.int .i64 (a : Int), .int .i64 (k : Int), .pointer (some ⟨vb, 0, none⟩)] W fun e w' => e = .returned (.bool true) ∧ Cnt w' vb cb n (mk f a k) ∧ Below B w0 w' ∧ ∀ g, g < W.heap.size → g ≠ cb → w'.heap[g]? = W.heap[g]? := by
  have HH := Aside0.mk h
  have HF := Aside0.mk hf
  have HBB := Aside0.mk hB
  have HRR := Aside0.mk hr
  clear h hf hB hr
  go_enter Try.func13, Try.ntmps13
  go_wp2_with fail
  go_loopw [6] (fun v6 wr => ∃ j : Nat, j ≤ k ∧ v6 = .int .i64 ((a + j : Nat) : Int) ∧ Aside0 (Cnt wr vb cb n (mk f a j)) ∧ Aside0 (Below B w0 wr) ∧ Aside0 (W.heap.size ≤ wr.heap.size ∧ ∀ g, g < W.heap.size → g ≠ cb → wr.heap[g]? = W.heap[g]?)) (fun v6 _ => a + k - (intOf v6).toNat)
  case atStart => exact ⟨0, Nat.zero_le _, rfl, ⟨HH.out.congr (fun i hi => by unfold mk; rw [if_neg (by omega)])⟩, HBB, ⟨Nat.le_refl _, fun _ _ _ => rfl⟩⟩
  case round =>
    obtain ⟨j, hj, rfl, HC, HBw, HKp⟩ := hrel
    have eA : IntKind.i64.wrap ((a : Int) + (k : Int)) = (a : Int) + (k : Int) := by rw [IntKind.wrap_i64]; omega
    by_cases hlt : j < k
    · obtain ⟨p, hp⟩ : ∃ p : Nat, a + j = p := ⟨_, rfl⟩
      have hpn : p < n := by omega
      have v0 := HC.out.v0
      have hc := HC.out.at_ p hpn
      have hfz := HC.out.frozen p
      have hval : mk f a j p = f p := by unfold mk; rw [if_neg (by omega)]
      have hfp := HF.out p hpn
      rw [hval] at hc
      have HN := Aside0.mk (show Cnt (wr.setCell ⟨cb, p, none⟩ (.int .i64 (f p + 1))) vb cb n (mk f a (j + 1)) from (HC.out.set_ p hpn (f p + 1)).congr (fun i hi => by
        unfold mk
        by_cases e : i = p
        · subst e; rw [if_pos rfl, if_pos (by omega)]
        · rw [if_neg e]
          by_cases e2 : a ≤ i ∧ i < a + j
          · rw [if_pos e2, if_pos (by omega)]
          · rw [if_neg e2, if_neg (by omega)]))
      have HB2 := Aside0.mk (below_set' HBw.out hcb p (.int .i64 (f p + 1)))
      have HK2 := Aside0.mk (show W.heap.size ≤ (wr.setCell ⟨cb, p, none⟩ (.int .i64 (f p + 1))).heap.size ∧ ∀ g, g < W.heap.size → g ≠ cb → (wr.setCell ⟨cb, p, none⟩ (.int .i64 (f p + 1))).heap[g]? = W.heap[g]? from
        ⟨by have := HKp.out.1; simpa [World.setCell] using this, fun g h1 h2 => (Below.heap_setCell wr ⟨cb, p, none⟩ (.int .i64 (f p + 1)) g h2).trans (HKp.out.2 g h1 h2)⟩)
      have HJ := Aside0.mk (And.intro hlt hp)
      rw [hp]
      have d1 : decide ((p : Int) < (a : Int) + (k : Int)) = true := decide_eq_true (by omega)
      have d2 : decide ((n : Int) ≤ (p : Int)) = false := decide_eq_false (by omega)
      have d3 : (n ≤ p) = False := eq_false (by omega)
      obtain ⟨x, hx⟩ : ∃ x, f p = x := ⟨_, rfl⟩
      rw [hx] at hc hfp HN HB2 HK2
      clear hval hlt hp hx HC HBw HKp
      go_wp2_with fail
      go_roundw
      case rel => exact ⟨j + 1, by have := HJ.out; omega, by rw [show a + (j + 1) = p + 1 from by have := HJ.out; omega]; go_num, HN, HB2, HK2⟩
      case measure => have := HJ.out; simp [intOf]; omega
    · obtain rfl : j = k := by omega
      have d1 : decide (((a + j : Nat) : Int) < (a : Int) + (j : Int)) = false := decide_eq_false (by omega)
      have d1' : (a : Int) + (j : Int) < (a : Int) + (j : Int) ↔ False := by simp
      rcases HRR.out with h8 | h1
      · have e8 : Int.tmod (a : Int) 8 = 0 := by rw [Int.tmod_eq_emod_of_nonneg (by omega)]; omega
        clear hlt
        go_wp2_with fail
        go_ret
        exact ⟨rfl, HC.out, HBw.out, HKp.out.2⟩
      · subst h1
        clear hlt
        obtain ⟨b8, e8⟩ : ∃ x, ((a : Int) % 8 == 0) = x := ⟨_, rfl⟩
        rcases b8 with _ | _
        all_goals (
          go_wp2_with fail
          go_ret
          exact ⟨rfl, HC.out, HBw.out, HKp.out.2⟩)
/-! ### which words are counted -/
def cov (sl bl bm S s K T : Nat) : Nat → Int := fun i => if i < S ∨ (sl ≤ i ∧ i < sl + s) ∨ (bl ≤ i ∧ i < bl + K) ∨ (bm ≤ i ∧ i < bm + T) then 1 else 0
theorem cov_range (sl bl bm S s K T i : Nat) : 0 ≤ cov sl bl bm S s K T i ∧ cov sl bl bm S s K T i ≤ 10 := by unfold cov; split <;> omega
section
variable (sl bl bm N bw S s K T : Nat)
theorem cov_S (h1 : S ≤ sl) (h2 : s ≤ N) (h3 : sl + N ≤ bm) (h4 : T ≤ bw) (h5 : bm + bw ≤ bl) (h : S + 8 ≤ sl) (i : Nat) : mk (cov sl bl bm S s K T) S 8 i = cov sl bl bm (S + 8) s K T i := by
  unfold mk cov
  by_cases e : S ≤ i ∧ i < S + 8
  · rw [if_pos e, if_neg (by omega), if_pos (by omega)]; rfl
  · rw [if_neg e]
    by_cases e2 : i < S ∨ (sl ≤ i ∧ i < sl + s) ∨ (bl ≤ i ∧ i < bl + K) ∨ (bm ≤ i ∧ i < bm + T)
    · rw [if_pos e2, if_pos (by omega)]
    · rw [if_neg e2, if_neg (by omega)]
theorem cov_s (h1 : S ≤ sl) (h2 : s ≤ N) (h3 : sl + N ≤ bm) (h4 : T ≤ bw) (h5 : bm + bw ≤ bl) (h : s + 1 ≤ N) (i : Nat) : mk (cov sl bl bm S s K T) (sl + s) 1 i = cov sl bl bm S (s + 1) K T i := by
  unfold mk cov
  by_cases e : sl + s ≤ i ∧ i < sl + s + 1
  · rw [if_pos e, if_neg (by omega), if_pos (by omega)]; rfl
  · rw [if_neg e]
    by_cases e2 : i < S ∨ (sl ≤ i ∧ i < sl + s) ∨ (bl ≤ i ∧ i < bl + K) ∨ (bm ≤ i ∧ i < bm + T)
    · rw [if_pos e2, if_pos (by omega)]
    · rw [if_neg e2, if_neg (by omega)]
theorem cov_K (h1 : S ≤ sl) (h2 : s ≤ N) (h3 : sl + N ≤ bm) (h4 : T ≤ bw) (h5 : bm + bw ≤ bl) (e : Nat) (i : Nat) : mk (cov sl bl bm S s K T) (bl + K) e i = cov sl bl bm S s (K + e) T i := by
  unfold mk cov
  by_cases e1 : bl + K ≤ i ∧ i < bl + K + e
  · rw [if_pos e1, if_neg (by omega), if_pos (by omega)]; rfl
  · rw [if_neg e1]
    by_cases e2 : i < S ∨ (sl ≤ i ∧ i < sl + s) ∨ (bl ≤ i ∧ i < bl + K) ∨ (bm ≤ i ∧ i < bm + T)
    · rw [if_pos e2, if_pos (by omega)]
    · rw [if_neg e2, if_neg (by omega)]
theorem cov_T (h1 : S ≤ sl) (h2 : s ≤ N) (h3 : sl + N ≤ bm) (h4 : T ≤ bw) (h5 : bm + bw ≤ bl) (h : T = 0) (i : Nat) : mk (cov sl bl bm S s K T) bm bw i = cov sl bl bm S s K bw i := by
  subst h
  unfold mk cov
  by_cases e1 : bm ≤ i ∧ i < bm + bw
  · rw [if_pos e1, if_neg (by omega), if_pos (by omega)]; rfl
  · rw [if_neg e1]
    by_cases e2 : i < S ∨ (sl ≤ i ∧ i < sl + s) ∨ (bl ≤ i ∧ i < bl + K) ∨ (bm ≤ i ∧ i < bm + 0)
    · rw [if_pos e2, if_pos (by omega)]
    · rw [if_neg e2, if_neg (by omega)]
end
/-- How many of the first i words fill lines alone. -/
def gaps (sl bl bm N bw i : Nat) : Nat := (min i bm - (sl + N)) + (min i bl - (bm + bw))
theorem gaps_step (sl bl bm N bw K i : Nat) (h3 : sl + N ≤ bm) (h5 : bm + bw ≤ bl) (hi : i < bl + K) :
    (cov sl bl bm sl N K bw i = 1 ∧ gaps sl bl bm N bw (i + 1) = gaps sl bl bm N bw i) ∨ (cov sl bl bm sl N K bw i = 0 ∧ gaps sl bl bm N bw (i + 1) = gaps sl bl bm N bw i + 1) := by
  unfold cov gaps
  by_cases e : i < sl ∨ (sl ≤ i ∧ i < sl + N) ∨ (bl ≤ i ∧ i < bl + K) ∨ (bm ≤ i ∧ i < bm + bw)
  · rw [if_pos e]; left; exact ⟨rfl, by omega⟩
  · rw [if_neg e]; right; exact ⟨rfl, by omega⟩
structure Geo (N M z : Int) (N' M' sl bl bm bw e n : Nat) : Prop where
  hN : N = (N' : Int)
  hM : M = (M' : Int)
  le : N' ≤ 256 ∧ M' ≤ 256
  esl : sl = 16 + 8 * M'
  h3 : sl + N' ≤ bm
  g1 : bm < sl + N' + 8
  m1 : bm % 8 = 0
  h5 : bm + bw ≤ bl
  g2 : bl < bm + bw + 8
  m2 : bl % 8 = 0
  en : n = bl + N' * e
  m3 : e % 8 = 0
  e1 : 8 ≤ e ∧ e ≤ 32
  n1 : n ≤ 100000
  fW : geometry_Geometry_Words.f N M z = some (n : Int)
  fS : geometry_Geometry_Super.f N M z = some 0
  fR : geometry_Geometry_Record.f N M z = some 8
  fB : geometry_Geometry_Bitmap.f N M z = some ((bm : Int), (bw : Int))
  fE : geometry_Geometry_Each.f N M z = some (e : Int)
  fI : ∀ i : Nat, i < M' → geometry_Geometry_Inode.f N M z (i : Int) = some ((16 + 8 * i : Nat) : Int)
  fL : ∀ b : Nat, b < N' → geometry_Geometry_Slot.f N M z (b : Int) = some ((sl + b : Nat) : Int)
  fK : ∀ b : Nat, b < N' → geometry_Geometry_Block.f N M z (b : Int) = some ((bl + b * e : Nat) : Int)
theorem small_mayG (n m z : Int) (h : (1 ≤ n ∧ n ≤ 256) ∧ (1 ≤ m ∧ m ≤ 256)) (hz : z = 64 ∨ z = 128 ∨ z = 256) : mayG n m z := by
  have ho : okG n m z := ⟨by omega, by omega, by unfold szG; omega⟩
  have h1 := small_may n m z h hz
  rw [may_sz n m z ho] at h1
  exact ⟨ho, of_decide_eq_true (Option.some.inj h1)⟩
theorem geo_of (N M z : Int) (h : (1 ≤ N ∧ N ≤ 256) ∧ (1 ≤ M ∧ M ≤ 256)) (hz : z = 64 ∨ z = 128 ∨ z = 256) : ∃ N' M' sl bl bm bw e n, Geo N M z N' M' sl bl bm bw e n := by
  have hm := small_mayG N M z h hz
  obtain ⟨s1, s2, s3, s4, s5⟩ := super_yes N M z hm
  have hbm := bm_range N M ⟨hm.1.1, hm.1.2.1⟩
  have hbw := bw_range N hm.1.1
  have hbl := bl_range N M ⟨hm.1.1, hm.1.2.1⟩
  have l1 := lines_range N (by omega)
  have l2 := lines_range (bwG N) (by omega)
  have hbwe : bwG N = (N + 63) / 64 := rfl
  obtain ⟨N', hN⟩ := Int.eq_ofNat_of_zero_le (show 0 ≤ N by omega)
  obtain ⟨M', hM⟩ := Int.eq_ofNat_of_zero_le (show 0 ≤ M by omega)
  obtain ⟨bm, ebm⟩ := Int.eq_ofNat_of_zero_le (show 0 ≤ bmG N M by omega)
  obtain ⟨bw, ebw⟩ := Int.eq_ofNat_of_zero_le (show 0 ≤ bwG N by omega)
  obtain ⟨bl, ebl⟩ := Int.eq_ofNat_of_zero_le (show 0 ≤ blG N M by omega)
  obtain ⟨e, ee⟩ := Int.eq_ofNat_of_zero_le (show 0 ≤ z / 8 by omega)
  have esl : slotsG M = ((16 + 8 * M' : Nat) : Int) := by unfold slotsG; omega
  have ebm2 : bmG N M = slotsG M + linesG N := rfl
  have ebl2 : blG N M = bmG N M + linesG (bwG N) := rfl
  have eal : allG N M z = ((bl + N' * e : Nat) : Int) := by
    show blG N M + N * (z / 8) = _
    rw [ebl, ee, hN]; simp
  have hpe : N' * e ≤ 256 * 32 := Nat.mul_le_mul (by omega) (by omega)
  refine ⟨N', M', 16 + 8 * M', bl, bm, bw, e, bl + N' * e, hN, hM, by omega, rfl, by omega, by omega, by omega, by omega, by omega, by omega, rfl, by omega, by omega, by omega, by rw [s3, eal], s1, s2, by rw [s4, ebm, ebw], by rw [s5, ee], ?_, ?_, ?_⟩
  · intro i hi
    rw [inode_yes N M z i hm (by omega) (by omega)]; simp
  · intro b hb
    rw [slot_yes N M z b hm (by omega) (by omega), esl]; simp
  · intro b hb
    rw [block_yes N M z b hm (by omega) (by omega), ebl, ee]; simp
end Go.Proofs.Ytcankokamleloaa.Ga
