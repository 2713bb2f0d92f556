/- What the functions of the law PackBytes tell: words' bytes, bytes' words, the document's. Conditions: numbers of their kinds, of lengths that memory holds. -/
import Derived.Test.YtdcljkdbdjbjiaaPPackBytesx1
import Derived.Test.YtdcljkdbdjbjiaaPPackBytesx2
import Derived.Test.YtdcljkdbdjbjiaaMath
namespace Go.Proofs.Ytdcljkdbdjbjiaa.Pk
open Go.RowKit Go.Proofs.Ytdcljkdbdjbjiaa.PPackBytes Go.Proofs.YtdcljkdbdjbjiaaW.PrintWords Go.Proofs.YtdcljkdbdjbjiaaW.PrintLast Go.Proofs.Ytdcljkdbdjbjiaa.Math Go.Proofs.Ytdcljkdbdjbjiaa
set_option linter.unusedVariables false
/-! ### a word's bytes -/
def w8from (x : Int) : Nat → List Int
  | 0 => []
  | d + 1 => x % 256 :: w8from (x / 2 ^ 8) d
def octs (l : List Int) : List Int := l.flatMap fun x => w8from x 8
theorem w8from_length : ∀ (d : Nat) (x : Int), (w8from x d).length = d
  | 0, _ => rfl
  | d + 1, x => by simp [w8from, w8from_length d]
theorem w8from_oct : ∀ (d : Nat) (x : Int), ∀ y ∈ w8from x d, 0 ≤ y ∧ y < 256
  | 0, _, y, h => by simp [w8from] at h
  | d + 1, x, y, h => by
    simp only [w8from, List.mem_cons] at h
    rcases h with rfl | h
    · omega
    · exact w8from_oct d _ y h
theorem octs_oct (l : List Int) : ∀ y ∈ octs l, 0 ≤ y ∧ y < 256 := by
  intro y h
  simp only [octs, List.mem_flatMap] at h
  obtain ⟨x, _, hx⟩ := h
  exact w8from_oct 8 x y hx
theorem octs_length (l : List Int) : (octs l).length = 8 * l.length := by
  induction l with
  | nil => rfl
  | cons x l ih =>
    have e : octs (x :: l) = w8from x 8 ++ octs l := by simp [octs]
    rw [e, List.length_append, ih, w8from_length]; simp; omega
/-! ### bytes in words, the lowest one first -/
def wof : List Int → Int
  | [] => 0
  | b :: l => b + 256 * wof l
def wdsF : Nat → List Int → List Int
  | 0, _ => []
  | n + 1, l => wof (l.take 8) :: wdsF n (l.drop 8)
def wds (l : List Int) : List Int := wdsF ((l.length + 7) / 8) l
theorem p256 (n : Nat) : (256 : Int) ^ n = 2 ^ (8 * n) := by
  induction n with
  | zero => rfl
  | succ n ih => rw [Int.pow_succ, ih, show 8 * (n + 1) = 8 * n + 8 from by omega, Int.pow_add]; rfl
theorem wof_range : ∀ (l : List Int), (∀ x ∈ l, 0 ≤ x ∧ x < 256) → 0 ≤ wof l ∧ wof l < 256 ^ l.length
  | [], _ => by simp [wof]
  | b :: l, h => by
    have ih := wof_range l (fun x hx => h x (List.mem_cons_of_mem _ hx))
    have hb := h b List.mem_cons_self
    rw [List.length_cons, Int.pow_succ]
    unfold wof
    generalize (256 : Int) ^ l.length = P at ih ⊢
    omega
theorem wof_append : ∀ (a b : List Int), wof (a ++ b) = wof a + 256 ^ a.length * wof b
  | [], b => by simp [wof]
  | x :: a, b => by
    have e1 : wof (x :: (a ++ b)) = x + 256 * wof (a ++ b) := rfl
    have e2 : wof (x :: a) = x + 256 * wof a := rfl
    rw [List.cons_append, e1, e2, wof_append a b, List.length_cons, Int.pow_succ, Int.mul_add, ← Int.mul_assoc, Int.mul_comm ((256 : Int) ^ a.length) 256]
    omega
theorem wof_snoc (a : List Int) (x : Int) : wof (a ++ [x]) = wof a + x * 2 ^ (8 * a.length) := by
  rw [wof_append, p256, Int.mul_comm]; simp [wof]
theorem wof_w8 : ∀ (d : Nat) (x : Int), 0 ≤ x → x < 2 ^ (8 * d) → wof (w8from x d) = x
  | 0, x, h0, h1 => by simp [w8from, wof] at *; omega
  | d + 1, x, h0, h1 => by
    unfold w8from wof
    rw [wof_w8 d (x / 2 ^ 8) (by omega) (by
      rw [Int.ediv_lt_iff_lt_mul (by decide), ← Int.pow_add, show 8 * d + 8 = 8 * (d + 1) from by omega]; exact h1)]
    omega
theorem w8_wof : ∀ (l : List Int) (d : Nat), (∀ x ∈ l, 0 ≤ x ∧ x < 256) → l.length ≤ d → w8from (wof l) d = l ++ List.replicate (d - l.length) 0
  | [], d, _, _ => by
    have : ∀ d, w8from 0 d = List.replicate d 0 := by
      intro d
      induction d with
      | zero => rfl
      | succ d ih => unfold w8from; rw [show (0 : Int) / 2 ^ 8 = 0 from by decide, ih]; rfl
    simp [wof, this]
  | b :: l, 0, _, h => by simp at h
  | b :: l, d + 1, ho, h => by
    have hb := ho b List.mem_cons_self
    unfold w8from wof
    rw [show (b + 256 * wof l) % 256 = b from by omega, show (b + 256 * wof l) / 2 ^ 8 = wof l from by omega, w8_wof l d (fun x hx => ho x (List.mem_cons_of_mem _ hx)) (by simp at h; omega)]
    simp
theorem wdsF_length : ∀ (n : Nat) (l : List Int), (wdsF n l).length = n
  | 0, _ => rfl
  | n + 1, l => by unfold wdsF; rw [List.length_cons, wdsF_length n]
theorem wds_length (l : List Int) : (wds l).length = (l.length + 7) / 8 := wdsF_length _ _
theorem wds_nil : wds [] = [] := rfl
theorem wds_eight (a b : List Int) (h : a.length = 8) : wds (a ++ b) = wof a :: wds b := by
  unfold wds
  rw [show ((a ++ b).length + 7) / 8 = (b.length + 7) / 8 + 1 from by simp; omega]
  show wof ((a ++ b).take 8) :: wdsF _ ((a ++ b).drop 8) = _
  rw [List.take_left' h, List.drop_left' h]
theorem wds_short (a : List Int) (h0 : 0 < a.length) (h : a.length ≤ 8) : wds a = [wof a] := by
  unfold wds
  rw [show (a.length + 7) / 8 = 1 from by omega]
  unfold wdsF wdsF
  rw [List.take_of_length_le h]
theorem wds_app : ∀ (m : Nat) (a b : List Int), a.length = 8 * m → wds (a ++ b) = wds a ++ wds b
  | 0, a, b, h => by
    have : a = [] := List.length_eq_zero_iff.1 (by omega)
    subst this; simp [wds_nil]
  | m + 1, a, b, h => by
    have e : a = a.take 8 ++ a.drop 8 := (List.take_append_drop 8 a).symm
    have l8 : (a.take 8).length = 8 := by rw [List.length_take]; omega
    rw [e, List.append_assoc, wds_eight _ _ l8, wds_eight _ _ l8, wds_app m (a.drop 8) b (by rw [List.length_drop]; omega), List.cons_append]
theorem wds_octs (l : List Int) (h : ∀ x ∈ l, 0 ≤ x ∧ x < 18446744073709551616) : wds (octs l) = l := by
  induction l with
  | nil => rfl
  | cons x l ih =>
    have e1 : octs (x :: l) = w8from x 8 ++ octs l := by simp [octs]
    have hx := h x List.mem_cons_self
    rw [e1, wds_eight _ _ (w8from_length 8 x), ih (fun y hy => h y (List.mem_cons_of_mem _ hy)), wof_w8 8 x hx.1 (by have := hx.2; omega)]
/-- One byte more, ahead of a new word. -/
theorem wds_new (a : List Int) (x : Int) (h : a.length % 8 = 0) : wds (a ++ [x]) = wds a ++ [x] := by
  rw [wds_app (a.length / 8) a [x] (by omega), wds_short [x] (by simp) (by simp)]
  simp [wof]
/-- One byte more, in the midst of a word. -/
theorem wds_old (a : List Int) (x : Int) (h : a.length % 8 ≠ 0) : ∃ (u : List Int) (v : List Int), wds a = u ++ [wof v] ∧ wds (a ++ [x]) = u ++ [wof v + x * 2 ^ (8 * (a.length % 8))] ∧ v.length = a.length % 8 ∧ (∀ y ∈ v, y ∈ a) := by
  refine ⟨wds (a.take (8 * (a.length / 8))), a.drop (8 * (a.length / 8)), ?_, ?_, ?_, fun y hy => List.mem_of_mem_drop hy⟩
  · conv => lhs; rw [← List.take_append_drop (8 * (a.length / 8)) a]
    rw [wds_app (a.length / 8) _ _ (by rw [List.length_take]; omega), wds_short (a.drop (8 * (a.length / 8))) (by rw [List.length_drop]; omega) (by rw [List.length_drop]; omega)]
  · conv => lhs; rw [← List.take_append_drop (8 * (a.length / 8)) a]
    rw [List.append_assoc, wds_app (a.length / 8) _ _ (by rw [List.length_take]; omega), wds_short (a.drop (8 * (a.length / 8)) ++ [x]) (by simp) (by simp; omega), wof_snoc, List.length_drop, show a.length - 8 * (a.length / 8) = a.length % 8 from by omega]
  · rw [List.length_drop]; omega
theorem octs_app (a b : List Int) : octs (a ++ b) = octs a ++ octs b := by simp [octs]
/-- The words' bytes: the bytes, and noughts to a whole word. -/
theorem octs_wds (l : List Int) (h : ∀ x ∈ l, 0 ≤ x ∧ x < 256) : octs (wds l) = l ++ List.replicate ((l.length + 7) / 8 * 8 - l.length) 0 := by
  suffices ∀ (m : Nat) (l : List Int), l.length ≤ 8 * m → (∀ x ∈ l, 0 ≤ x ∧ x < 256) → octs (wds l) = l ++ List.replicate ((l.length + 7) / 8 * 8 - l.length) 0 from this l.length l (by omega) h
  intro m
  induction m with
  | zero => intro l hl _; have : l = [] := List.length_eq_zero_iff.1 (by omega); subst this; rfl
  | succ m ih =>
    intro l hl ho
    by_cases h8 : l.length ≤ 8
    · by_cases h0 : l.length = 0
      · have : l = [] := List.length_eq_zero_iff.1 h0
        subst this; rfl
      · rw [wds_short l (by omega) h8, show octs [wof l] = w8from (wof l) 8 from by simp [octs], w8_wof l 8 ho h8, show (l.length + 7) / 8 = 1 from by omega]
    · have l8 : (l.take 8).length = 8 := by rw [List.length_take]; omega
      have e : l = l.take 8 ++ l.drop 8 := (List.take_append_drop 8 l).symm
      have hd : (l.drop 8).length = l.length - 8 := List.length_drop
      have ih' := ih (l.drop 8) (by omega) (fun x hx => ho x (List.mem_of_mem_drop hx))
      conv => lhs; rw [e]
      rw [wds_eight _ _ l8, show octs (wof (l.take 8) :: wds (l.drop 8)) = w8from (wof (l.take 8)) 8 ++ octs (wds (l.drop 8)) from by simp [octs], w8_wof (l.take 8) 8 (fun x hx => ho x (List.mem_of_mem_take hx)) (by omega), ih', l8]
      simp only [Nat.sub_self, List.replicate_zero, List.append_nil]
      rw [← List.append_assoc, List.take_append_drop, hd]
      congr 2
      omega
theorem wds_range (l : List Int) (h : ∀ x ∈ l, 0 ≤ x ∧ x < 256) : ∀ y ∈ wds l, 0 ≤ y ∧ y < 18446744073709551616 := by
  suffices ∀ (n : Nat) (l : List Int), (∀ x ∈ l, 0 ≤ x ∧ x < 256) → ∀ y ∈ wdsF n l, 0 ≤ y ∧ y < 18446744073709551616 from this _ l h
  intro n
  induction n with
  | zero => intro l _ y hy; cases hy
  | succ n ih =>
    intro l ho y hy
    unfold wdsF at hy
    rcases List.mem_cons.1 hy with rfl | hy
    · have h1 := wof_range (l.take 8) (fun x hx => ho x (List.mem_of_mem_take hx))
      have h2 : (256 : Int) ^ (l.take 8).length ≤ 256 ^ 8 := by
        have h3 : 256 ^ (l.take 8).length ≤ 256 ^ 8 := Nat.pow_le_pow_right (by decide) (by rw [List.length_take]; omega)
        have h4 := Int.ofNat_le.2 h3
        rw [Int.natCast_pow, Int.natCast_pow] at h4
        exact h4
      have h3 : (256 : Int) ^ 8 = 18446744073709551616 := by decide
      omega
    · exact ih (l.drop 8) (fun x hx => ho x (List.mem_of_mem_drop hx)) y hy
/-! ### words' bytes: pack_Bytes -/
theorem pack_Bytes_row (ws : List Int) (n j : Int) (r : List Int) : ∀ (d : Nat) (x : Int) (i : Int) (out : List Int), 0 ≤ x → 0 ≤ i → 8 - i = d → out.length + d < 100000000000 →
    Ev (fun k => pack_Bytes.l0 k (out ++ w8from (x / 2 ^ (8 * i).toNat) d) ws n (wrap64 (j + 1))) r → Ev (fun k => pack_Bytes.l1 k out x ws n j i) r
  | 0, x, i, out, hx, h0, hd, hb, h => by
    refine Ev.step (fun k => ?_) h
    simp only [pack_Bytes.l1, w8from, List.append_nil]; rw [if_neg (by omega)]
  | d + 1, x, i, out, hx, h0, hd, hb, h => by
    have hs : (8 * (i + 1)).toNat = (8 * i).toNat + 8 := by omega
    have ih := pack_Bytes_row ws n j r d x (i + 1) (out ++ [x / 2 ^ (8 * i).toNat % 256]) hx (by omega) (by omega) (by simp; omega) (by
      rw [hs, pow_add', ← Int.ediv_ediv_of_nonneg (Int.le_of_lt (pow_pos' _))]
      have : out ++ [x / 2 ^ (8 * i).toNat % 256] ++ w8from (x / 2 ^ (8 * i).toNat / 2 ^ 8) d = out ++ w8from (x / 2 ^ (8 * i).toNat) (d + 1) := by simp [w8from]
      rw [this]; exact h)
    refine Ev.step (fun k => ?_) ih
    simp only [pack_Bytes.l1]
    rw [if_pos (by omega), w64 (n := 8 * i) (by omega) (by omega), if_pos (by omega), if_pos (by omega), shr_u64 x (8 * i) (by omega) (by omega), w64 (n := i + 1) (by omega) (by omega)]
theorem pack_Bytes_ev : ∀ (ws pre out : List Int), (∀ w ∈ ws, 0 ≤ w) → pre.length + ws.length ≤ 1000000000 → out.length ≤ 8 * pre.length →
    Ev (fun k => pack_Bytes.l0 k out (pre ++ ws) ((pre ++ ws).length : Int) (pre.length : Int)) (out ++ octs ws)
  | [], pre, out, hw, hb, ho => by
    refine Ev.step (f := fun _ => some _) (fun k => ?_) (Ev.now _)
    simp only [pack_Bytes.l0, List.append_nil]; rw [if_neg (by omega)]; simp [octs]
  | w :: ws, pre, out, hw, hb, ho => by
    simp only [List.length_cons] at hb
    have hlen : (pre ++ w :: ws).length = pre.length + ws.length + 1 := by simp; omega
    have ih := pack_Bytes_ev ws (pre ++ [w]) (out ++ w8from w 8) (fun y hy => hw y (List.mem_cons_of_mem _ hy)) (by simp; omega) (by simp [w8from_length]; omega)
    have e1 : pre ++ [w] ++ ws = pre ++ w :: ws := by simp
    have e2 : ((pre ++ [w]).length : Int) = wrap64 ((pre.length : Int) + 1) := by rw [w64 (n := (pre.length : Int) + 1) (by omega) (by omega)]; simp
    have e3 : out ++ w8from w 8 ++ octs ws = out ++ octs (w :: ws) := by simp [octs]
    rw [e1, e2, e3] at ih
    have h1 := pack_Bytes_row (pre ++ w :: ws) ((pre ++ w :: ws).length : Int) (pre.length : Int) _ 8 w 0 out (hw w List.mem_cons_self) (by omega) (by omega) (by omega) (by
      rw [show w / 2 ^ (8 * (0 : Int)).toNat = w from by simp]; exact ih)
    refine Ev.step (fun k => ?_) h1
    simp only [pack_Bytes.l0, hlen, rd_mid]
    rw [if_pos (by omega), if_pos (by omega), if_pos (by omega)]
theorem pack_Bytes_f (ws : List Int) (hw : ∀ w ∈ ws, 0 ≤ w) (hb : ws.length ≤ 1000000000) : Ev (fun k => pack_Bytes.f k ws) (octs ws) :=
  pack_Bytes_ev ws [] [] hw (by simpa using hb) (by simp)
/-! ### the document's bytes of words -/
theorem rbytes_row (ws : List Int) (n j : Int) (r : ByteArray) : ∀ (d : Nat) (x : Int) (i : Int) (out : List Int), 0 ≤ x → x < 18446744073709551616 → 0 ≤ i → 8 - i = d → out.length + d < 100000000000 →
    Ev (fun k => cantleref02_Bytes.l0 k (out ++ w8from x d) ws n (wrap64 (j + 1))) r → Ev (fun k => cantleref02_Bytes.l1 k out x ws n j i) r
  | 0, x, i, out, hx, hx1, h0, hd, hb, h => by
    refine Ev.step (fun k => ?_) h
    simp only [cantleref02_Bytes.l1, w8from, List.append_nil]; rw [if_neg (by omega)]
  | d + 1, x, i, out, hx, hx1, h0, hd, hb, h => by
    have ih := rbytes_row ws n j r d (x / 2 ^ 8) (i + 1) (out ++ [x % 256]) (by omega) (by omega) (by omega) (by omega) (by simp; omega) (by
      have : out ++ [x % 256] ++ w8from (x / 2 ^ 8) d = out ++ w8from x (d + 1) := by simp [w8from]
      rw [this]; exact h)
    refine Ev.step (fun k => ?_) ih
    have q1 : Int.tmod x 256 % 256 = x % 256 := by rw [Int.tmod_eq_emod_of_nonneg hx]; omega
    have q2 : IntKind.u64.wrap (Int.tdiv x 256) = x / 2 ^ 8 := by rw [Int.tdiv_eq_ediv_of_nonneg hx, u64_fit (by omega) (by omega)]; rfl
    simp only [cantleref02_Bytes.l1, q1, q2]
    rw [if_pos (by omega), if_pos (by omega), w64 (n := i + 1) (by omega) (by omega)]
theorem rbytes_ev : ∀ (ws pre out : List Int), (∀ w ∈ ws, 0 ≤ w ∧ w < 18446744073709551616) → pre.length + ws.length ≤ 1000000000 → out.length ≤ 8 * pre.length →
    Ev (fun k => cantleref02_Bytes.l0 k out (pre ++ ws) ((pre ++ ws).length : Int) (pre.length : Int)) (strOfNums (out ++ octs ws))
  | [], pre, out, hw, hb, ho => by
    refine Ev.step (f := fun _ => some _) (fun k => ?_) (Ev.now _)
    simp only [cantleref02_Bytes.l0, List.append_nil]; rw [if_neg (by omega)]; simp [octs]
  | w :: ws, pre, out, hw, hb, ho => by
    simp only [List.length_cons] at hb
    have hlen : (pre ++ w :: ws).length = pre.length + ws.length + 1 := by simp; omega
    have ih := rbytes_ev ws (pre ++ [w]) (out ++ w8from w 8) (fun y hy => hw y (List.mem_cons_of_mem _ hy)) (by simp; omega) (by simp [w8from_length]; omega)
    have e1 : pre ++ [w] ++ ws = pre ++ w :: ws := by simp
    have e2 : ((pre ++ [w]).length : Int) = wrap64 ((pre.length : Int) + 1) := by rw [w64 (n := (pre.length : Int) + 1) (by omega) (by omega)]; simp
    have e3 : out ++ w8from w 8 ++ octs ws = out ++ octs (w :: ws) := by simp [octs]
    rw [e1, e2, e3] at ih
    obtain ⟨hw0, hw1⟩ := hw w List.mem_cons_self
    have h1 := rbytes_row (pre ++ w :: ws) ((pre ++ w :: ws).length : Int) (pre.length : Int) _ 8 w 0 out hw0 hw1 (by omega) (by omega) (by omega) ih
    refine Ev.step (fun k => ?_) h1
    simp only [cantleref02_Bytes.l0, hlen, rd_mid]
    rw [if_pos (by omega), if_pos (by omega), if_pos (by omega)]
theorem rbytes_f (ws : List Int) (hw : ∀ w ∈ ws, 0 ≤ w ∧ w < 18446744073709551616) (hb : ws.length ≤ 1000000000) : Ev (fun k => cantleref02_Bytes.f k ws) (strOfNums (octs ws)) :=
  rbytes_ev ws [] [] hw (by simpa using hb) (by simp)
/-! ### cantlelaw03.Same -/
theorem same_ev : ∀ (a b pa pb : List Int), a.length = b.length → pa.length = pb.length → pa.length + a.length ≤ 1000000000 →
    Ev (fun k => cantlelaw03_Same.l0 k (pa ++ a) (pb ++ b) ((pa ++ a).length : Int) (pa.length : Int)) (decide (a = b))
  | [], [], pa, pb, _, hp, hb => by
    refine Ev.step (f := fun _ => some _) (fun k => ?_) (Ev.now _)
    simp only [cantlelaw03_Same.l0, List.append_nil]; rw [if_neg (by omega)]; simp
  | x :: a, y :: b, pa, pb, hl, hp, hb => by
    have h1 : (pa ++ x :: a).length = pa.length + a.length + 1 := by simp; omega
    have h2 : (pb ++ y :: b).length = pa.length + a.length + 1 := by simp at hl ⊢; omega
    simp only [List.length_cons] at hb hl
    by_cases hxy : x = y
    · have ih := same_ev a b (pa ++ [x]) (pb ++ [y]) (by omega) (by simp [hp]) (by simp; omega)
      have e1 : pa ++ [x] ++ a = pa ++ x :: a := by simp
      have e1' : pb ++ [y] ++ b = pb ++ y :: b := by simp
      have e2 : ((pa ++ [x]).length : Int) = (pa.length : Int) + 1 := by simp
      rw [e1, e1', e2] at ih
      have ed : decide (x :: a = y :: b) = decide (a = b) := by subst hxy; simp
      rw [ed]
      refine Ev.step (fun k => ?_) ih
      simp only [cantlelaw03_Same.l0, h1, h2, rd_mid, rd_mid' hp]
      rw [if_pos (by omega), if_pos (by omega), if_pos (by omega), if_pos (by omega), if_pos hxy, w64 (n := (pa.length : Int) + 1) (by omega) (by omega)]
    · refine Ev.step (f := fun _ => some _) (fun k => ?_) (Ev.now _)
      simp only [cantlelaw03_Same.l0, h1, h2, rd_mid, rd_mid' hp]
      rw [if_pos (by omega), if_pos (by omega), if_pos (by omega), if_pos (by omega), if_neg hxy]
      simp [hxy]
theorem same_f (a b : List Int) (hb : a.length ≤ 1000000000) : Ev (fun k => cantlelaw03_Same.f k a b) (decide (a = b)) := by
  by_cases h : a.length = b.length
  · refine Ev.congr (fun k => ?_) (same_ev a b [] [] h rfl (by simpa using hb))
    unfold cantlelaw03_Same.f
    rw [if_pos (by omega)]; rfl
  · refine Ev.congr (f := fun _ => some _) (fun k => ?_) (Ev.now _)
    unfold cantlelaw03_Same.f
    rw [if_neg (by omega)]
    simp only [Option.some.injEq]
    symm; rw [decide_eq_false_iff_not]; intro e; subst e; exact h rfl
/-! ### pack.Words, and the document's -/
theorem or_one (x : Int) (h0 : 0 ≤ x) (h1 : x < 256) : Go.bits .or .u64 0 x = x := by
  have := or_above 0 x 0 (by omega) (by decide) h0 (by omega)
  simpa using this
theorem pw_ev : ∀ (l pre : List Int), (∀ x ∈ pre ++ l, 0 ≤ x ∧ x < 256) → pre.length + l.length ≤ 1000000000 →
    Ev (fun k => pack_Words.l0 k (wds pre) (pre ++ l) ((pre ++ l).length : Int) (pre.length : Int)) (wds (pre ++ l))
  | [], pre, ho, hb => by
    refine Ev.step (f := fun _ => some _) (fun k => ?_) (Ev.now _)
    simp only [pack_Words.l0, List.append_nil]; rw [if_neg (by omega)]
  | x :: l, pre, ho, hb => by
    simp only [List.length_cons] at hb
    have hlen : (pre ++ x :: l).length = pre.length + l.length + 1 := by simp; omega
    have hx := ho x (by simp)
    have e1 : pre ++ [x] ++ l = pre ++ x :: l := by simp
    have e2 : ((pre ++ [x]).length : Int) = (pre.length : Int) + 1 := by simp
    have ih := pw_ev l (pre ++ [x]) (by rw [e1]; exact ho) (by simp; omega)
    rw [e1, e2] at ih
    refine Ev.step (fun k => ?_) ih
    have ht : Int.tmod (pre.length : Int) 8 = ((pre.length % 8 : Nat) : Int) := by rw [Int.tmod_eq_emod_of_nonneg (by omega)]; omega
    have wl := wds_length pre
    simp only [pack_Words.l0, hlen, rd_mid, ht]
    rw [if_pos (by omega), if_pos (by omega), if_pos (by omega), w64 (n := (pre.length : Int) + 1) (by omega) (by omega), u64_fit hx.1 (by omega)]
    by_cases h8 : pre.length % 8 = 0
    · have hn := wds_new pre x h8
      rw [h8, if_pos (show ((0 : Nat) : Int) = 0 from rfl), if_pos (by omega), Option.bind_some]
      have ll : ((wds pre ++ [0]).length : Int) = ((wds pre).length : Int) + 1 := by simp
      rw [ll, w64 (n := ((wds pre).length : Int) + 1 - 1) (by omega) (by omega), show ((wds pre).length : Int) + 1 - 1 = ((wds pre).length : Int) from by omega, if_pos (by omega), if_pos (by omega), show wrap64 (8 * ((0 : Nat) : Int)) = 0 from w64 (by decide) (by decide), if_pos (Int.le_refl 0), rd_mid,
        shl_u64_fit x 0 (by omega) (by omega) hx.1 (by simp; omega)]
      rw [show x * 2 ^ (0 : Int).toNat = x from by simp, or_one x hx.1 hx.2, Int.toNat_natCast, List.set_append_right _ _ (Nat.le_refl _), Nat.sub_self, hn]
      rfl
    · obtain ⟨u, v, q1, q2, q3, q4⟩ := wds_old pre x h8
      have hv := wof_range v (fun y hy => ho y (by simp [q4 y hy]))
      rw [if_neg (by omega), q1, q2]
      have ll : ((u ++ [wof v]).length : Int) = (u.length : Int) + 1 := by simp
      have ul : u.length ≤ 1000000000 := by
        have := congrArg List.length q1
        simp at this; omega
      have m8 : pre.length % 8 < 8 := Nat.mod_lt _ (by decide)
      generalize pre.length % 8 = m at h8 q3 m8 ⊢
      rw [ll, w64 (n := (u.length : Int) + 1 - 1) (by omega) (by omega), show (u.length : Int) + 1 - 1 = (u.length : Int) from by omega, if_pos (by omega), if_pos (by omega), w64 (n := 8 * (m : Int)) (by omega) (by omega), if_pos (by omega), rd_mid]
      have p1 : x * 2 ^ (8 * m) < 2 ^ 64 ∧ wof v + x * 2 ^ (8 * m) < 2 ^ 64 := by
        rw [q3, p256] at hv
        have hp := pow_pos' (8 * m)
        have h3 : (x + 1) * 2 ^ (8 * m) ≤ 256 * 2 ^ (8 * m) := Int.mul_le_mul_of_nonneg_right (by omega) (by omega)
        rw [Int.add_mul, Int.one_mul] at h3
        have h4 : (256 : Int) * 2 ^ (8 * m) = 2 ^ (8 * m + 8) := by rw [pow_add', Int.mul_comm]; rfl
        have h5 : (2 : Int) ^ (8 * m + 8) ≤ 2 ^ 64 := pow_le' (by omega)
        generalize x * 2 ^ (8 * m) = P at h3 ⊢
        generalize (2 : Int) ^ (8 * m) = Q at *
        omega
      have et : (8 * (m : Int)).toNat = 8 * m := by omega
      rw [shl_u64_fit x (8 * (m : Int)) (by omega) (by omega) hx.1 (by rw [et]; exact p1.1), et, or_above (wof v) x (8 * m) hv.1 (by rw [q3, p256] at hv; exact hv.2) hx.1 p1.2, Int.toNat_natCast, List.set_append_right _ _ (Nat.le_refl _), Nat.sub_self]
      rfl
theorem pw_f (l : List Int) (ho : ∀ x ∈ l, 0 ≤ x ∧ x < 256) (hb : l.length ≤ 1000000000) : Ev (fun k => pack_Words.f k l) (wds l) :=
  pw_ev l [] (by simpa using ho) (by simpa using hb)
theorem wds_cons (l : List Int) (h : 0 < l.length) : wds l = wof (l.take 8) :: wds (l.drop 8) := by
  unfold wds
  rw [show (l.length + 7) / 8 = ((l.drop 8).length + 7) / 8 + 1 from by rw [List.length_drop]; omega]
  rfl
theorem bt_str (l : List Int) (h : ∀ x ∈ l, 0 ≤ x ∧ x < 256) (q : Nat) (hq : q < l.length) : bt (strOfNums l) (q : Int) = l.getD q 0 := by
  have hx := h l[q] (List.getElem_mem hq)
  have hs : (strOfNums l).size = l.length := by simp [strOfNums, ByteArray.size]
  unfold bt
  rw [dif_pos (by rw [Int.toNat_natCast, hs]; exact hq), List.getD_eq_getElem?_getD, List.getElem?_eq_getElem hq]
  simp [strOfNums, ByteArray.getElem_eq_getElem_data]
  omega
theorem rw_row (l : List Int) (ho : ∀ x ∈ l, 0 ≤ x ∧ x < 256) (hb : l.length ≤ 1000000000) (out : List Int) (i : Nat) (hi : i < l.length) (hout : out.length ≤ 1000000000) (r : List Int)
    (h : Ev (fun k => cantleref03_Words.l0 k (strOfNums l) (out ++ [wof ((l.drop i).take 8)]) ((i + 8 : Nat) : Int)) r) :
    ∀ t : Nat, t ≤ 8 → Ev (fun k => cantleref03_Words.l1 k (strOfNums l) out (i : Int) (wof (((l.drop i).take 8).drop t)) ((t : Int) - 1)) r
  | 0, _ => by
    refine Ev.step (fun k => ?_) h
    simp only [cantleref03_Words.l1, List.drop_zero]
    rw [if_neg (by omega), if_pos (by omega), w64 (n := (i : Int) + 8) (by omega) (by omega)]; rfl
  | t + 1, ht => by
    have ih := rw_row l ho hb out i hi hout r h t (by omega)
    have hs : (strOfNums l).size = l.length := by simp [strOfNums, ByteArray.size]
    have hw := wof_range (((l.drop i).take 8).drop (t + 1)) (fun x hx => ho x (List.mem_of_mem_drop (List.mem_of_mem_take (List.mem_of_mem_drop hx))))
    have hw2 : wof (((l.drop i).take 8).drop (t + 1)) < 256 ^ 7 := by
      have h3 : 256 ^ (((l.drop i).take 8).drop (t + 1)).length ≤ 256 ^ 7 := Nat.pow_le_pow_right (by decide) (by rw [List.length_drop, List.length_take]; omega)
      have h4 := Int.ofNat_le.2 h3
      rw [Int.natCast_pow, Int.natCast_pow] at h4
      exact Int.lt_of_lt_of_le hw.2 h4
    have h7 : (256 : Int) ^ 7 = 72057594037927936 := by decide
    rw [h7] at hw2
    refine Ev.step (fun k => ?_) ih
    simp only [cantleref03_Words.l1, hs]
    rw [show ((t + 1 : Nat) : Int) - 1 = (t : Int) from by omega, if_pos (by omega), w64 (n := (i : Int) + (t : Int)) (by omega) (by omega), w64 (n := (t : Int) - 1) (by omega) (by omega), show (i : Int) + (t : Int) = ((i + t : Nat) : Int) from by omega]
    by_cases hlt : i + t < l.length
    · have hg := bt_str l ho (i + t) hlt
      have hx := ho l[i + t] (List.getElem_mem hlt)
      have hxe : l.getD (i + t) 0 = l[i + t] := by rw [List.getD_eq_getElem?_getD, List.getElem?_eq_getElem hlt]; rfl
      have hd : ((l.drop i).take 8).drop t = l[i + t] :: ((l.drop i).take 8).drop (t + 1) := by
        have hl : t < ((l.drop i).take 8).length := by rw [List.length_take, List.length_drop]; omega
        rw [List.drop_eq_getElem_cons hl]
        simp
      rw [if_pos (by omega), if_pos (by omega), hg, hxe, hd]
      generalize l[i + t] = x at hx
      show _ = cantleref03_Words.l1 k (strOfNums l) out (i : Int) (x + 256 * wof (((l.drop i).take 8).drop (t + 1))) ((t : Int) - 1)
      generalize wof (((l.drop i).take 8).drop (t + 1)) = y at hw hw2 ⊢
      rw [u64_fit (n := 256 * y) (by omega) (by omega), u64_fit (n := x) (by omega) (by omega), u64_fit (n := 256 * y + x) (by omega) (by omega), Int.add_comm]
    · have hd : ((l.drop i).take 8).drop t = [] := List.drop_eq_nil_of_le (by rw [List.length_take, List.length_drop]; omega)
      have hd' : ((l.drop i).take 8).drop (t + 1) = [] := List.drop_eq_nil_of_le (by rw [List.length_take, List.length_drop]; omega)
      rw [if_neg (by omega), hd, hd']; rfl
theorem rw_ev (l : List Int) (ho : ∀ x ∈ l, 0 ≤ x ∧ x < 256) (hb : l.length ≤ 1000000000) : ∀ (d i : Nat) (out : List Int), l.length - i ≤ d → out.length ≤ i → i ≤ l.length + 7 → Ev (fun k => cantleref03_Words.l0 k (strOfNums l) out (i : Int)) (out ++ wds (l.drop i)) := by
  intro d
  have hs : (strOfNums l).size = l.length := by simp [strOfNums, ByteArray.size]
  induction d with
  | zero =>
    intro i out hd _ _
    refine Ev.step (f := fun _ => some _) (fun k => ?_) (Ev.now _)
    simp only [cantleref03_Words.l0, hs]
    rw [if_neg (by omega), List.drop_eq_nil_of_le (by omega), wds_nil, List.append_nil]
  | succ d ih =>
    intro i out hd ho' hi'
    by_cases hi : i < l.length
    · have h1 := ih (i + 8) (out ++ [wof ((l.drop i).take 8)]) (by omega) (by simp; omega) (by omega)
      rw [List.append_assoc, show [wof ((l.drop i).take 8)] ++ wds (l.drop (i + 8)) = wds (l.drop i) from by
        rw [wds_cons (l.drop i) (by rw [List.length_drop]; omega), List.drop_drop]; rfl] at h1
      have h2 := rw_row l ho hb out i hi (by omega) _ h1 8 (Nat.le_refl _)
      rw [List.drop_eq_nil_of_le (by rw [List.length_take]; omega)] at h2
      refine Ev.step (fun k => ?_) h2
      simp only [cantleref03_Words.l0, hs]
      rw [if_pos (by omega)]; rfl
    · refine Ev.step (f := fun _ => some _) (fun k => ?_) (Ev.now _)
      simp only [cantleref03_Words.l0, hs]
      rw [if_neg (by omega), List.drop_eq_nil_of_le (by omega), wds_nil, List.append_nil]
theorem rw_f (l : List Int) (ho : ∀ x ∈ l, 0 ≤ x ∧ x < 256) (hb : l.length ≤ 1000000000) : Ev (fun k => cantleref03_Words.f k (strOfNums l)) (wds l) := by
  have := rw_ev l ho hb l.length 0 [] (by omega) (by simp) (by omega)
  rw [List.drop_zero, List.nil_append] at this
  exact this
end Go.Proofs.Ytdcljkdbdjbjiaa.Pk
