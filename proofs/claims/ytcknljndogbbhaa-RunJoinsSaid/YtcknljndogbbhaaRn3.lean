/- Blocks in a row put; runs picked and taken. Conditions: as each lemma says. -/
import Derived.Test.YtcknljndogbbhaaRn2
namespace Go.Proofs.Ytcknljndogbbhaa.Rn
open Go.RowKit Go.Proofs.Ytcknljndogbbhaa Go.Proofs.Ytcknljndogbbhaa.Bm Go.Proofs.Ytcknljndogbbhaa.PAll Go.Proofs.YtcknljndogbbhaaW.PrintWords Go.Proofs.YtcknljndogbbhaaW.PrintLast Go.Proofs.YtcknljndogbbhaaW.PrintMore
attribute [local go_sem] max2_int min2_int max_two min_two
set_option linter.unusedVariables false
/-- Some blocks put, one behind the other. -/
def putsB : Nat → Int → List Bool → List Bool
  | 0, _, m => m
  | d + 1, a, m => (turnB false (putsB d a m) [a + d]).1
theorem putsB_length (d : Nat) (a : Int) (m : List Bool) : (putsB d a m).length = m.length := by
  induction d with
  | zero => rfl
  | succ d ih => simp only [putsB]; rw [turnB_length, ih]
theorem putsW_of (d : Nat) (a : Int) (m : List Bool) : putsW m.length d a (wordsOf m) = wordsOf (putsB d a m) := by
  induction d with
  | zero => rfl
  | succ d ih =>
    simp only [putsW, putsB]
    rw [ih, ← putsB_length d a m, turnW_of]
/-- May blocks in a row be put? -/
def rangeB (m : List Bool) (a k : Int) : Bool :=
  decide (1 ≤ k) && (decide (0 ≤ a) && (decide (a < m.length) && (decide (k ≤ m.length - a) && !(decide (0 ≤ nextB m true (m.length - a.toNat) a.toNat) && decide (nextB m true (m.length - a.toNat) a.toNat < a + k)))))
theorem rangeOk_of (m : List Bool) (a k : Int) : rangeOk m.length (wordsOf m) a k = rangeB m a k := by
  unfold rangeOk rangeB
  rw [nextW_of]
def rangeE (m : List Bool) (a k : Int) : List Bool := if rangeB m a k = true then putsB k.toNat a m else m
theorem rangeE_length (m : List Bool) (a k : Int) : (rangeE m a k).length = m.length := by
  unfold rangeE; split
  · exact putsB_length _ _ _
  · rfl
theorem rangeH {W : World} {g b : Nat} {m : List Bool} (h : Holds W g b m) (hn : m.length ≤ 65534) (a k : Int) (ha : -9223372036854775808 ≤ a ∧ a ≤ 9223372036854775807) (hk : -9223372036854775808 ≤ k ∧ k ≤ 9223372036854775807) :
    Calls Try.prog 28 #[.pointer (some ⟨g, 0, none⟩), .int .i64 a, .int .i64 k] W fun e w' => e = .returned (.bool (rangeB m a k)) ∧ Holds w' g b (rangeE m a k) ∧ W.grownBy w' (some b) := by
  obtain ⟨c, cs, hI⟩ := h
  unfold rangeE
  rw [← rangeOk_of]
  cases hr : rangeOk m.length (wordsOf m) a k with
  | false =>
    refine (range_no hI hn (words_enough m) a k ha hk hr).mono ?_
    rintro e w' ⟨he, rfl⟩
    exact ⟨he, by rw [if_neg (by simp)]; exact ⟨c, cs, hI⟩, World.grownBy.refl _ _⟩
  | true =>
    refine (range_yes hI hn (words_enough m) a k ha hk hr).mono ?_
    rintro e w' ⟨he, ⟨cs', hI'⟩, hG⟩
    refine ⟨he, ?_, hG⟩
    rw [if_pos rfl]
    rw [putsW_of] at hI'
    exact ⟨c, cs', by rw [putsB_length]; exact hI'⟩
/-- So many out of runs. -/
def takeR (c : Int) : List S60 → List S60
  | [] => []
  | r :: rs => if c = 0 then [] else ⟨r.f0, if r.f1 ≤ c then r.f1 else c⟩ :: takeR (c - if r.f1 ≤ c then r.f1 else c) rs
def pickOf (m : List Bool) (c : Int) : List S60 := if (fitOf m c).2.2 = true then [⟨(fitOf m c).1, (fitOf m c).2.1⟩] else takeR c (runsOf m)
theorem takeR_length (rs : List S60) : ∀ c, (takeR c rs).length ≤ rs.length := by
  induction rs with
  | nil => intro c; exact Nat.le_refl _
  | cons r rs ih =>
    intro c
    simp only [takeR]
    split
    · simp
    · have := ih (c - if r.f1 ≤ c then r.f1 else c); simp; omega
theorem pick_length (m : List Bool) (c : Int) : (pickOf m c).length ≤ m.length + 1 := by
  unfold pickOf
  split
  · simp
  · have h1 := takeR_length (runsOf m) c
    have h2 : (runsOf m).length ≤ m.length + 1 := freeR_length m _ _
    omega
/-- The runs' counts fit. -/
theorem freeR_bd (m : List Bool) (hn : m.length ≤ 65534) : ∀ d p, p ≤ m.length → ∀ r ∈ freeR m d p, 0 ≤ r.f0 ∧ r.f0 ≤ 65534 ∧ 1 ≤ r.f1 ∧ r.f1 ≤ 65534
  | 0, _, _, r, h => by simp [freeR] at h
  | d + 1, p, hp, r, h => by
    rcases freeR_step m d p hp with ⟨_, h2, _⟩ | ⟨s, e, h1, h2, h3, _, h5, _⟩
    · rw [h2] at h; simp at h
    · rw [h5] at h
      rcases List.mem_cons.1 h with rfl | h
      · show 0 ≤ (s : Int) ∧ (s : Int) ≤ 65534 ∧ 1 ≤ (e : Int) - s ∧ (e : Int) - s ≤ 65534
        omega
      · exact freeR_bd m hn d e h3 r h
theorem news2' (W : World) (o : Obj) (a b : Value) (t : TypeId) : ∀ j u, [a, b][j]? = some u → ((W.alloc o).alloc (.cells #[a, b] t)).cell? ((⟨W.heap.size + 1, 0, none⟩ : Addr).add j) = some u := by
  have := news2 (W.alloc o) a b t
  simpa using this
theorem cell_kept {W w3 : World} {base n : Nat} {v : Value} {xs : List Value} {a b : Value} {o : Obj} (ho : W.ownsRow base 60 2 v n xs) (h : ((W.alloc (.cells #[a, b] 60)).alloc o).grownBy w3 v.ownBlock) : w3.cell? ⟨W.heap.size, 1, none⟩ = some b :=
  (blk_cell (blk_grown (blk_alloc (heap_alloc_new W (.cells #[a, b] 60)) o) h (fun e => Nat.lt_irrefl _ (own_lt ho _ e.symm))) 1).trans rfl
theorem lit2 (W : World) (base : Nat) (a b : Int) (hb : base ≤ W.heap.size) : OwnR (W.alloc (.cells #[.int .i64 a, .int .i64 b] 60)) base (.slice (some ⟨W.heap.size, 0, none⟩) 1 1) [⟨a, b⟩] :=
  World.ownsRow_lit (base := base) (e := 60) (size := 2) W #[.int .i64 a, .int .i64 b] 1 hb (by simp [maxLen]) (by simp)
theorem lit2' (W : World) (o : Obj) (base : Nat) (a b : Int) (hb : base ≤ (W.alloc o).heap.size) : OwnR ((W.alloc o).alloc (.cells #[.int .i64 a, .int .i64 b] 60)) base (.slice (some ⟨W.heap.size + 1, 0, none⟩) 1 1) [⟨a, b⟩] := by
  have := lit2 (W.alloc o) base a b hb
  simpa using this
set_option maxHeartbeats 4000000 in
theorem pickH {W : World} {g b : Nat} {m : List Bool} (h : Holds W g b m) (hn : m.length ≤ 65534) (c : Int) (hc : 0 ≤ c ∧ c ≤ 65534) :
    Calls Try.prog 52 #[.pointer (some ⟨g, 0, none⟩), .int .i64 c] W fun e w' => ∃ v, e = .returned v ∧ OwnR w' W.heap.size v (pickOf m c) ∧ Below W.heap.size W w' := by
  have HH := Aside0.mk h
  have HN := Aside0.mk hn
  obtain ⟨i0, hi0⟩ := info60p
  have HI := Aside0.mk hi0
  have HPL := Aside0.mk (pick_length m c)
  have HBD := Aside0.mk (freeR_bd m hn (m.length + 1) 0 (Nat.zero_le _))
  clear h hn hi0
  cases hf : (fitOf m c).2.2 with
  | true =>
    have HF := Aside0.mk (show pickOf m c = [⟨(fitOf m c).1, (fitOf m c).2.1⟩] by unfold pickOf; rw [if_pos hf])
    have HC := Aside0.mk (fitH HH.out HN.out c (by omega))
    rw [hf] at HC
    go_enter Try.func52, Try.ntmps52
    go_wp2_with (go_at_call 35; refine HC.out.mono ?_; rintro e w1 ⟨rfl, hb⟩)
    go_ret
    refine ⟨_, rfl, ?_, below_alloc (below_alloc hb _) _⟩
    rw [HF.out]
    exact lit2' w1 _ _ _ _ (below_alloc hb _).size
  | false =>
    have HF := Aside0.mk (show pickOf m c = takeR c (runsOf m) by unfold pickOf; rw [if_neg (by rw [hf]; simp)])
    have HC := Aside0.mk (fitH HH.out HN.out c (by omega))
    rw [hf] at HC
    have HRL := Aside0.mk (show (runsOf m).length ≤ 70000 by have : (runsOf m).length ≤ m.length + 1 := freeR_length m _ _; have := HN.out; omega)
    have HFR := Aside0.mk (fun (W1 : World) (hb : Below W.heap.size W W1) => freeRunsH (HH.out.below hb) HN.out)
    have hbd : ∀ r ∈ runsOf m, 0 ≤ r.f0 ∧ r.f0 ≤ 65534 ∧ 1 ≤ r.f1 ∧ r.f1 ≤ 65534 := HBD.out
    generalize (fitOf m c).1 = fa at HC
    generalize (fitOf m c).2.1 = fb at HC
    generalize runsOf m = rs at HF HRL HFR hbd
    have HBD2 := Aside0.mk hbd
    clear HBD hbd hf
    go_enter Try.func52, Try.ntmps52
    go_wp2_with (go_at_call 35; refine HC.out.mono ?_; rintro e w1 ⟨rfl, hb1⟩)
    refine (HFR.out _ (below_alloc hb1 _)).mono ?_
    rintro e w2 ⟨v, rfl, ho, hb2⟩
    obtain ⟨A, cc, rfl, hle, hC⟩ := OwnR.C ho (by have := HRL.out; omega)
    have HCC := Aside0.mk hC
    have HB := Aside0.mk (below_then (below_alloc hb1 _) (Nat.le_trans hb1.size (by simp)) hb2)
    clear ho hb1 hb2 hC hle HFR
    go_wp2_with fail
    go_loopw [1, 7, 22] (fun v1 v7 v22 wr => ∃ (k : Nat) (x : Int) (out : List S60), k ≤ rs.length ∧ v22 = .int .i64 k ∧ v1 = .int .i64 x ∧ Aside0 (0 ≤ x ∧ x ≤ 65534) ∧ Aside0 (out ++ takeR x (rs.drop k) = takeR c rs) ∧ Aside0 (OwnR wr w2.heap.size v7 out) ∧ Aside0 (Below w2.heap.size w2 wr)) (fun _ _ v22 _ => rs.length - (intOf v22).toNat)
    case atStart => exact ⟨0, c, [], Nat.zero_le _, rfl, rfl, ⟨hc⟩, ⟨rfl⟩, ⟨own_nil _ _ _ _⟩, ⟨Below.refl _ _⟩⟩
    case round =>
      obtain ⟨k, x, out, hk, rfl, rfl, HX, HE, HOr, HBr⟩ := hrel
      have HCr := Aside0.mk (Kd.C_below HCC.out HBr.out)
      have hl := HRL.out
      have hx0 := HX.out.1
      have hx1 := HX.out.2
      by_cases hlt : k < rs.length
      · obtain ⟨ad, eA, q0, q1⟩ := runs_at HCr.out k hlt
        subst eA
        have hd : takeR x (rs.drop k) = if x = 0 then [] else ⟨rs[k].f0, if rs[k].f1 ≤ x then rs[k].f1 else x⟩ :: takeR (x - if rs[k].f1 ≤ x then rs[k].f1 else x) (rs.drop (k + 1)) := by
          rw [List.drop_eq_getElem_cons hlt]; rfl
        have HDD := Aside0.mk hd
        have hbk := HBD2.out rs[k] (List.getElem_mem _)
        clear hd
        generalize rs[k] = r at q0 q1 HDD hbk
        by_cases hz : x = 0
        · have d0 : (x == 0) = true := by simp [hz]
          have HZ := Aside0.mk hz
          clear hz
          go_wp2_with fail
          go_ret
          refine ⟨_, rfl, ?_, below_alloc (below_then HB.out HB.out.size HBr.out) _⟩
          have hh : takeR c rs = out := by have := HE.out; rw [HDD.out, if_pos HZ.out, List.append_nil] at this; exact this.symm
          rw [HF.out, hh]
          exact own_weaken (HOr.out.below (below_alloc (Below.refl _ _) _)) HB.out.size
        · have d0 : (x == 0) = false := by simpa using hz
          have hlo : out.length ≤ rs.length := by
            have h1 := congrArg List.length HE.out
            have h2 := takeR_length rs c
            rw [List.length_append] at h1; omega
          have hzz : x ≠ 0 := hz
          have HZ := Aside0.mk hzz
          clear hz hzz
          by_cases hm : r.f1 ≤ x
          · have hm' : ¬ x < r.f1 := by omega
            have HE2 := Aside0.mk (show (out ++ [⟨r.f0, r.f1⟩]) ++ takeR (x - r.f1) (rs.drop (k + 1)) = takeR c rs by have := HE.out; rw [HDD.out, if_neg HZ.out, if_pos hm] at this; rw [← this]; simp)
            go_wp2_with (at_builtin; refine wpList_append_own _ rfl _ _ 68 rfl w2.heap.size 60 i0 (.agg #[.int .i64 0, .int .i64 0]) 2 16 Try.underlying68 HI.out.1 HI.out.2.1 HI.out.2.2.1 HI.out.2.2.2 rfl (by decide) u7 out.length (nums .i64 (flat out)) rfl ((HOr.out.own.alloc _).alloc _) ⟨wr.heap.size + 1, 0, none⟩ 1 1 [.int .i64 r.f0, .int .i64 r.f1] rfl rfl (news2' _ _ _ _ _) (by simp [Value.oneCell']) (by unfold maxLen; omega) (by omega) (Nat.le_trans HBr.out.size (by simp; omega)) ?_; intro v' w3 hown hgrow hnil; have hcr := cell_kept HOr.out.own hgrow)
            have HO3 := Aside0.mk (OwnR.snoc hown)
            have HB3 := Aside0.mk (pw_below_grown (below_alloc (below_alloc HBr.out _) _) u7.ownBlock (Nat.le_trans HBr.out.size (by simp; omega)) hgrow (fun k hk => own_base HOr.out.own k hk))
            go_roundw
            case rel => exact ⟨k + 1, x - r.f1, _, by omega, by go_num, by first | rfl | go_num | simp, ⟨by omega⟩, HE2, HO3, HB3⟩
            case measure => simp [intOf]; omega
          · have hm' : x < r.f1 := by omega
            have HE2 := Aside0.mk (show (out ++ [⟨r.f0, x⟩]) ++ takeR (x - x) (rs.drop (k + 1)) = takeR c rs by have := HE.out; rw [HDD.out, if_neg HZ.out, if_neg hm] at this; rw [← this]; simp)
            go_wp2_with (at_builtin; refine wpList_append_own _ rfl _ _ 68 rfl w2.heap.size 60 i0 (.agg #[.int .i64 0, .int .i64 0]) 2 16 Try.underlying68 HI.out.1 HI.out.2.1 HI.out.2.2.1 HI.out.2.2.2 rfl (by decide) u7 out.length (nums .i64 (flat out)) rfl ((HOr.out.own.alloc _).alloc _) ⟨wr.heap.size + 1, 0, none⟩ 1 1 [.int .i64 r.f0, .int .i64 x] rfl rfl (news2' _ _ _ _ _) (by simp [Value.oneCell']) (by unfold maxLen; omega) (by omega) (Nat.le_trans HBr.out.size (by simp; omega)) ?_; intro v' w3 hown hgrow hnil; have hcr := cell_kept HOr.out.own hgrow)
            have HO3 := Aside0.mk (OwnR.snoc hown)
            have HB3 := Aside0.mk (pw_below_grown (below_alloc (below_alloc HBr.out _) _) u7.ownBlock (Nat.le_trans HBr.out.size (by simp; omega)) hgrow (fun k hk => own_base HOr.out.own k hk))
            go_roundw
            case rel => exact ⟨k + 1, x - x, _, by omega, by go_num, by first | rfl | go_num | simp, ⟨by omega⟩, HE2, HO3, HB3⟩
            case measure => simp [intOf]; omega
      · obtain rfl : k = rs.length := by omega
        go_wp2_with fail
        go_ret
        refine ⟨_, rfl, ?_, below_then HB.out HB.out.size HBr.out⟩
        have hh : takeR c rs = out := by have := HE.out; rw [List.drop_length] at this; simpa [takeR] using this.symm
        rw [HF.out, hh]
        exact own_weaken HOr.out HB.out.size
/-- A row of runs, where another block alone has turned. -/
theorem C60_keep {W W' : World} {A : Option Addr} {rs : List S60} {g : Nat} (h : Kd.C k60 W A rs.length rs) (hk : KeepBut W W' g none) (hf : ∀ ad, A = some ad → ad.block ≠ g) : Kd.C k60 W' A rs.length rs := by
  obtain ⟨h1, h2, h3⟩ := h
  refine ⟨h1, h2, fun hn => ?_⟩
  obtain ⟨ad, e, hc⟩ := h3 hn
  refine ⟨ad, e, fun j p hp => ?_⟩
  obtain ⟨c, hl, hK, hcc⟩ := hc j p hp
  have hc2 := k60_open hK
  subst hc2
  exact ⟨_, hl, k60_mk W' p, fun i u hu => keep_cell hk (hcc i u hu) (by rw [add_block]; exact hf ad e)⟩
/-- What is taken is put. -/
def takeM (m : List Bool) (rs : List S60) : List Bool := rs.foldl (fun m r => rangeE m r.f0 r.f1) m
theorem takeM_length (rs : List S60) : ∀ m, (takeM m rs).length = m.length := by
  induction rs with
  | nil => intro m; rfl
  | cons r rs ih => intro m; show (takeM (rangeE m r.f0 r.f1) rs).length = _; rw [ih, rangeE_length]
theorem takeM_snoc (m : List Bool) (rs : List S60) (r : S60) : takeM m (rs ++ [r]) = rangeE (takeM m rs) r.f0 r.f1 := by unfold takeM; rw [List.foldl_append]; rfl
theorem takeR_bd (rs : List S60) (h : ∀ r ∈ rs, 0 ≤ r.f0 ∧ r.f0 ≤ 65534 ∧ 1 ≤ r.f1 ∧ r.f1 ≤ 65534) : ∀ c, 0 ≤ c → ∀ r ∈ takeR c rs, 0 ≤ r.f0 ∧ r.f0 ≤ 65534 ∧ 1 ≤ r.f1 ∧ r.f1 ≤ 65534 := by
  induction rs with
  | nil => intro c _ r hr; simp [takeR] at hr
  | cons x rs ih =>
    intro c hc r hr
    have hx := h x List.mem_cons_self
    simp only [takeR] at hr
    split at hr
    · simp at hr
    · rename_i hne
      rcases List.mem_cons.1 hr with rfl | hr
      · refine ⟨hx.1, hx.2.1, ?_⟩
        show 1 ≤ (if x.f1 ≤ c then x.f1 else c) ∧ (if x.f1 ≤ c then x.f1 else c) ≤ 65534
        split <;> omega
      · exact ih (fun r hr => h r (List.mem_cons_of_mem _ hr)) _ (by split <;> omega) r hr
theorem findFit_bd (c : Int) (hc : 1 ≤ c ∧ c ≤ 65534) (rs : List S60) (h : ∀ r ∈ rs, 0 ≤ r.f0 ∧ r.f0 ≤ 65534 ∧ 1 ≤ r.f1 ∧ r.f1 ≤ 65534) : 0 ≤ (findFit c rs).1 ∧ (findFit c rs).1 ≤ 65534 ∧ 0 ≤ (findFit c rs).2.1 ∧ (findFit c rs).2.1 ≤ 65534 := by
  induction rs with
  | nil => simp [findFit]
  | cons x rs ih =>
    have hx := h x List.mem_cons_self
    simp only [findFit]
    split
    · simp only; omega
    · exact ih (fun r hr => h r (List.mem_cons_of_mem _ hr))
theorem pick_bd (m : List Bool) (hn : m.length ≤ 65534) (c : Int) (hc : 0 ≤ c ∧ c ≤ 65534) : ∀ r ∈ pickOf m c, 0 ≤ r.f0 ∧ r.f0 ≤ 65534 ∧ 0 ≤ r.f1 ∧ r.f1 ≤ 65534 := by
  have hb : ∀ r ∈ runsOf m, 0 ≤ r.f0 ∧ r.f0 ≤ 65534 ∧ 1 ≤ r.f1 ∧ r.f1 ≤ 65534 := freeR_bd m hn _ 0 (Nat.zero_le _)
  intro r hr
  unfold pickOf at hr
  split at hr
  · simp only [List.mem_singleton] at hr
    subst hr
    unfold fitOf
    split
    · simp
    · exact findFit_bd c (by omega) _ hb
  · have := takeR_bd _ hb c hc.1 r hr
    omega
/-- The ends of Take. -/
def takeOk (m : List Bool) (c : Int) : Bool := decide (0 ≤ c) && decide (c ≤ m.length - (m.count true : Nat))
set_option maxHeartbeats 4000000 in
theorem take_no {W : World} {g b : Nat} {m : List Bool} (h : Holds W g b m) (hn : m.length ≤ 65534) (c : Int) (hc : -9223372036854775808 ≤ c ∧ c ≤ 9223372036854775807) (ht : takeOk m c = false) :
    Calls Try.prog 42 #[.pointer (some ⟨g, 0, none⟩), .int .i64 c] W fun e w' => e = .returned (.tuple #[.slice none 0 0, .bool false]) ∧ ∃ k, w' = W.drewN k := by
  have HH := Aside0.mk h
  have HN := Aside0.mk hn
  have hcnt := List.count_le_length (a := true) (l := m)
  clear h
  by_cases h0 : c < 0
  · have d0 : decide (c < 0) = true := decide_eq_true h0
    clear ht
    go_enter Try.func42, Try.ntmps42
    go_wp2_with fail
    go_ret2
    exact ⟨rfl, 0, rfl⟩
  · have d0 : decide (c < 0) = false := decide_eq_false h0
    have h1 : (m.length : Int) - (m.count true : Nat) < c := by
      unfold takeOk at ht
      rw [decide_eq_true (by omega : 0 ≤ c)] at ht
      simpa using ht
    have HF := Aside0.mk (freeH HH.out hn)
    generalize ((m.count true : Nat) : Int) = t at h1 HF
    clear ht hcnt
    generalize hF : (m.length : Int) - t = F at h1 HF
    clear hF
    have d1 : decide (F < c) = true := decide_eq_true h1
    go_enter Try.func42, Try.ntmps42
    go_wp2_with (go_at_call 18; refine HF.out.mono ?_; rintro e w1 ⟨rfl, n1, rfl⟩)
    go_ret2
    exact ⟨rfl, n1, rfl⟩
set_option maxHeartbeats 4000000 in
theorem take_yes {W : World} {g b : Nat} {m : List Bool} (h : Holds W g b m) (hn : m.length ≤ 65534) (c : Int) (ht : takeOk m c = true) (hbW : True) :
    Calls Try.prog 42 #[.pointer (some ⟨g, 0, none⟩), .int .i64 c] W fun e w' => ∃ A cc, e = .returned (.tuple #[.slice A (pickOf m c).length cc, .bool true]) ∧ (pickOf m c).length ≤ cc ∧ Kd.C k60 w' A (pickOf m c).length (pickOf m c) ∧ Holds w' g b (takeM m (pickOf m c)) ∧ W.grownBy w' (some b) := by
  have HH := Aside0.mk h
  have HN := Aside0.mk hn
  have hcnt := List.count_le_length (a := true) (l := m)
  unfold takeOk at ht
  simp only [Bool.and_eq_true, decide_eq_true_eq] at ht
  obtain ⟨h0, h1⟩ := ht
  have hc : 0 ≤ c ∧ c ≤ 65534 := by omega
  have HF := Aside0.mk (freeH HH.out hn)
  generalize ((m.count true : Nat) : Int) = t at h1 HF
  generalize hF : (m.length : Int) - t = F at h1 HF
  clear hF h hcnt
  have d0 : decide (c < 0) = false := decide_eq_false (by omega)
  have d1 : decide (F < c) = false := decide_eq_false (by omega)
  have HP := Aside0.mk (fun k => pickH (HH.out.drewN k) hn c hc)
  have HPB := Aside0.mk (pick_bd m hn c hc)
  have HPL := Aside0.mk (pick_length m c)
  generalize pickOf m c = rs at HP HPB HPL ⊢
  clear h0 h1
  go_enter Try.func42, Try.ntmps42
  go_wp2_with (go_at_call 18; refine HF.out.mono ?_; rintro e w1 ⟨rfl, n1, rfl⟩)
  refine (HP.out n1).mono ?_
  rintro e w2 ⟨v, rfl, ho, hb2⟩
  obtain ⟨A, cc, rfl, hle, hC⟩ := OwnR.C ho (by have := HPL.out; omega)
  have HLE := Aside0.mk hle
  have HC := Aside0.mk hC
  have HB := Aside0.mk (show Below W.heap.size W w2 from below_then (pw_below_drewN (Below.refl _ W) n1) (Nat.le_refl _) hb2)
  have hAne : ∀ ad, A = some ad → ad.block ≠ b := fun ad e => by
    subst e
    have h3 := own_base (OwnR.own ho) ad.block rfl
    have h4 := HH.out.lt.2.1
    have h5 : (W.drewN n1).heap.size = W.heap.size := rfl
    omega
  have HA := Aside0.mk hAne
  have HH2 := Aside0.mk (HH.out.below HB.out)
  clear ho hb2 hC hle hAne HP HF
  go_wp2_with fail
  go_loopw [22] (fun v22 wr => ∃ k : Nat, k ≤ rs.length ∧ v22 = .int .i64 k ∧ Aside0 (Holds wr g b (takeM m (rs.take k))) ∧ Aside0 (w2.grownBy wr (some b))) (fun v22 _ => rs.length - (intOf v22).toNat)
  case atStart => exact ⟨0, Nat.zero_le _, rfl, HH2, ⟨World.grownBy.refl _ _⟩⟩
  case round =>
    obtain ⟨k, hk, rfl, HHr, HGr⟩ := hrel
    have hl := HPL.out
    have hn' := HN.out
    have HCr := Aside0.mk (C60_keep HC.out (keep_of HGr.out) HA.out)
    by_cases hlt : k < rs.length
    · obtain ⟨ad, eA, q0, q1⟩ := runs_at HCr.out k hlt
      subst eA
      have hbk := HPB.out rs[k] (List.getElem_mem _)
      have hs : takeM m (rs.take (k + 1)) = rangeE (takeM m (rs.take k)) rs[k].f0 rs[k].f1 := by rw [List.take_succ_eq_append_getElem hlt, takeM_snoc]
      have HS := Aside0.mk hs
      clear hs
      generalize rs[k] = r at q0 q1 HS hbk
      have hml := takeM_length (rs.take k) m
      have HML := Aside0.mk hml
      clear hml
      go_wp2_with fail
      refine (rangeH (HHr.out.alloc _) (by have := HML.out; omega) r.f0 r.f1 (by omega) (by omega)).mono ?_
      rintro e w4 ⟨rfl, hH4, hG4⟩
      rw [← HS.out] at hH4
      go_wp2_with fail
      go_roundw
      case rel => exact ⟨k + 1, by omega, by go_num, ⟨hH4⟩, ⟨grown_trans (grown_alloc HGr.out _) hG4⟩⟩
      case measure => simp [intOf]; omega
    · obtain rfl : k = rs.length := by omega
      go_wp2_with fail
      go_ret2
      rw [List.take_length] at HHr
      exact ⟨A, cc, rfl, HLE.out, HCr.out, HHr.out, ⟨HGr.out.os.trans HB.out.os, HGr.out.tape.trans HB.out.tape, HGr.out.output.trans HB.out.output, Nat.le_trans HB.out.size HGr.out.size, fun i hi hne => (HGr.out.block i (Nat.lt_of_lt_of_le hi HB.out.size) hne).trans (HB.out.block i hi)⟩⟩
end Go.Proofs.Ytcknljndogbbhaa.Rn
