/- RunJoins: the walk through the law function. Conditions: as each lemma says. -/
import Derived.Test.YtcknljndogbbhaaRnJ
namespace Go.Proofs.Ytcknljndogbbhaa.Rn
open Go.RowKit Go.Proofs.Ytcknljndogbbhaa Go.Proofs.Ytcknljndogbbhaa.Bm Go.Proofs.Ytcknljndogbbhaa.PAll Go.Proofs.YtcknljndogbbhaaW.PrintWords Go.Proofs.YtcknljndogbbhaaW.PrintLast Go.Proofs.YtcknljndogbbhaaW.PrintMore
attribute [local go_sem] max2_int min2_int max_two min_two
set_option linter.unusedVariables false
set_option maxRecDepth 100000 in
theorem joins_long (W : World) (A : Option Addr) (c : Nat) (l : List Int) (A2 : Option Addr) (c2 : Nat) (l2 : List Int) (hl : 30 < l.length) :
    Calls Try.prog 11 #[.slice A l.length c, .slice A2 l2.length c2] W fun e w' => e = .returned (.bool true) ∧ Below W.heap.size W w' := by
  have d : decide (30 < (l.length : Int)) = true := decide_eq_true (by omega)
  clear hl
  go_enter Try.func11, Try.ntmps11
  go_wp2_with fail
  refine (lives11 _).mono ?_
  rintro e w1 ⟨rfl, hb⟩
  have HB1 := Aside0.mk hb
  clear hb
  go_wp2_with fail
  refine (lives11 _).mono ?_
  rintro e w2 ⟨rfl, hb⟩
  have HB2 := Aside0.mk (below_then HB1.out HB1.out.size hb)
  clear hb
  go_wp2_with fail
  go_ret
  exact ⟨rfl, HB2.out⟩
set_option maxRecDepth 100000 in
theorem joins_none (W : World) (A : Option Addr) (c : Nat) (l : List Int) (A2 : Option Addr) (c2 : Nat) (hl : l.length ≤ 30) :
    Calls Try.prog 11 #[.slice A l.length c, .slice A2 0 c2] W fun e w' => e = .returned (.bool true) ∧ Below W.heap.size W w' := by
  have d : decide (30 < (l.length : Int)) = false := decide_eq_false (by omega)
  clear hl
  go_enter Try.func11, Try.ntmps11
  go_wp2_with fail
  refine (lives11 _).mono ?_
  rintro e w1 ⟨rfl, hb⟩
  have HB1 := Aside0.mk hb
  clear hb
  go_wp2_with fail
  refine (lives11 _).mono ?_
  rintro e w2 ⟨rfl, hb⟩
  have HB2 := Aside0.mk (below_then HB1.out HB1.out.size hb)
  clear hb
  go_wp2_with fail
  go_ret
  exact ⟨rfl, HB2.out⟩
/-- Two rows of one's own, of unlike kinds, lie in unlike blocks. -/
theorem own_apart {W : World} {base base' : Nat} {e e' : TypeId} {sz sz' n n' : Nat} {v v' : Value} {xs xs' : List Value} (h : W.ownsRow base e sz v n xs) (h' : W.ownsRow base' e' sz' v' n' xs') (hne : e ≠ e') : ∀ k, v.ownBlock = some k → v'.ownBlock ≠ some k := by
  intro k hk hk'
  rcases h.2 with ⟨rfl, _⟩ | ⟨g, cap, cur, rfl, _, hh, _⟩
  · simp [Value.ownBlock] at hk
  · rcases h'.2 with ⟨rfl, _⟩ | ⟨g', cap', cur', rfl, _, hh', _⟩
    · simp [Value.ownBlock] at hk'
    · have e1 : g = k := by simpa [Value.ownBlock] using hk
      have e2 : g' = k := by simpa [Value.ownBlock] using hk'
      subst e1
      subst e2
      have := hh.symm.trans hh'
      simp at this
      exact hne this.2
/-- A row of one's own stays where another row alone has grown. -/
theorem own_far {W W' : World} {base : Nat} {e : TypeId} {sz n : Nat} {v : Value} {xs : List Value} {row : Option Nat} (h : W.ownsRow base e sz v n xs) (hg : W.grownBy W' row) (hne : ∀ k, v.ownBlock = some k → row ≠ some k) : W'.ownsRow base e sz v n xs := by
  refine ⟨h.1, ?_⟩
  rcases h.2 with h2 | ⟨g, cap, cur, rfl, hb, hh, h3⟩
  · exact .inl h2
  · have : row ≠ some g := hne g (by simp [Value.ownBlock])
    exact .inr ⟨g, cap, cur, rfl, hb, (hg.block g (blk_lt hh) (fun e => this e.symm)).trans hh, h3⟩
theorem own_lt {W : World} {base : Nat} {e : TypeId} {sz n : Nat} {v : Value} {xs : List Value} (h : W.ownsRow base e sz v n xs) : ∀ k, v.ownBlock = some k → k < W.heap.size := by
  intro k hk
  rcases h.2 with ⟨rfl, _⟩ | ⟨g, cap, cur, rfl, _, hh, _⟩
  · simp [Value.ownBlock] at hk
  · have : g = k := by simpa [Value.ownBlock] using hk
    subst this
    exact blk_lt hh
theorem own_kind {W : World} {base : Nat} {e t : TypeId} {sz n k : Nat} {v : Value} {xs : List Value} {cs : Array Value} (h : W.ownsRow base e sz v n xs) (hk : v.ownBlock = some k) (hh : W.heap[k]? = some (.cells cs t (0, 0))) : t = e := by
  rcases h.2 with ⟨rfl, _⟩ | ⟨g, cap, cur, rfl, _, hg, _⟩
  · simp [Value.ownBlock] at hk
  · have : g = k := by simpa [Value.ownBlock] using hk
    subst this
    have := hh.symm.trans hg
    simp at this
    exact this.2
theorem own_CI {W : World} {base : Nat} {v : Value} {xs : List Int} (h : W.ownsRow base 3 1 v xs.length (nums .i64 xs)) (hm : xs.length ≤ 9223372036854775807) : ∃ A c, v = .slice A xs.length c ∧ xs.length ≤ c ∧ Kd.C (Kd.int .i64) W A xs.length xs := by
  obtain ⟨h1, h2⟩ := h
  rcases h2 with ⟨rfl, h0⟩ | ⟨g, cap, cur, rfl, hg, hh, hle, _, hsz, htake⟩
  · rcases xs with _ | ⟨r, xs⟩
    · exact ⟨none, 0, rfl, Nat.le_refl _, Kd.C_nil _ _⟩
    · simp at h0
  · refine ⟨_, cap, rfl, hle, rfl, hm, fun _ => ⟨⟨g, 0, none⟩, rfl, fun j p hp => ⟨[.int .i64 p], rfl, rfl, fun i u hu => ?_⟩⟩⟩
    have hj := (List.getElem?_eq_some_iff.1 hp).1
    have hsz2 : (Kd.int .i64).sz = 1 := rfl
    rw [hsz2]
    rcases i with _ | i
    · simp at hu
      subst hu
      rw [add_plain, blk_cell hh, ← Array.getElem?_toList]
      have := congrArg (fun l => l[j * 1 + 0]?) htake
      rw [List.getElem?_take_of_lt (by omega)] at this
      rw [this]
      simp [nums, hp]
    · simp at hu
theorem joinOf_length (l : List S60) : ∀ i, i ≤ l.length → (joinOf (l.take i)).length ≤ i := by
  intro i
  induction i with
  | zero => intro _; exact Nat.le_refl _
  | succ i ih =>
    intro hi
    have := ih (by omega)
    rw [join_step l i (by omega)]
    have := join1_length (joinOf (l.take i)) (l[i]'(by omega))
    omega
theorem blks_at (js : List S60) (k : Nat) (hk : k < js.length) (j : Nat) (hj : (j : Int) < (js[k]).f1) : (blksOf js)[(blksOf (js.take k)).length + j]? = some ((js[k]).f0 + (j : Int)) := by
  have e : js = js.take k ++ ([js[k]] ++ js.drop (k + 1)) := by
    rw [List.singleton_append, ← List.drop_eq_getElem_cons hk, List.take_append_drop]
  have e2 : blksOf js = blksOf (js.take k) ++ (blk1 js[k] ++ blksOf (js.drop (k + 1))) := by
    conv => lhs; rw [e]
    rw [blksOf_append, blksOf_append, blksOf_one]
  rw [e2, List.getElem?_append_right (by omega), show (blksOf (js.take k)).length + j - (blksOf (js.take k)).length = j from by omega, List.getElem?_append_left (by rw [blk1_length]; omega)]
  unfold blk1
  rw [List.getElem?_map, List.getElem?_range (by omega)]
  rfl
theorem blks_step (js : List S60) (k : Nat) (hk : k < js.length) : (blksOf (js.take (k + 1))).length = (blksOf (js.take k)).length + (js[k]).f1.toNat := by
  rw [List.take_succ_eq_append_getElem hk, blksOf_append, blksOf_one, List.length_append, blk1_length]
theorem blks_bd (rs : List S60) (h : ∀ r ∈ rs, (0 ≤ r.f0 ∧ r.f0 ≤ 19) ∧ 1 ≤ r.f1 ∧ r.f1 ≤ 20) : ∀ x ∈ blksOf rs, 0 ≤ x ∧ x ≤ 39 := by
  intro x hx
  unfold blksOf blk1 at hx
  rw [List.mem_flatMap] at hx
  obtain ⟨r, hr, hx⟩ := hx
  rw [List.mem_map] at hx
  obtain ⟨t, ht, rfl⟩ := hx
  rw [List.mem_range] at ht
  have := h r hr
  omega
theorem js_bd (rs js : List S60) (h : ∀ r ∈ rs, (0 ≤ r.f0 ∧ r.f0 ≤ 19) ∧ 1 ≤ r.f1 ∧ r.f1 ≤ 20) (hb : blksOf js = blksOf rs) (h1 : ∀ q ∈ js, 1 ≤ q.f1) (hl : (blksOf rs).length ≤ 600) : ∀ q ∈ js, (0 ≤ q.f0 ∧ q.f0 ≤ 39) ∧ 1 ≤ q.f1 ∧ q.f1 ≤ 600 := by
  intro q hq
  have h2 := h1 q hq
  have hsub : ∀ x ∈ blk1 q, x ∈ blksOf js := fun x hx => by unfold blksOf; rw [List.mem_flatMap]; exact ⟨q, hq, hx⟩
  have hm : q.f0 ∈ blk1 q := by unfold blk1; rw [List.mem_map]; exact ⟨0, by rw [List.mem_range]; omega, by simp⟩
  have h3 := blks_bd rs h q.f0 (hb ▸ hsub _ hm)
  have hlen : (blk1 q).length ≤ (blksOf js).length := by
    obtain ⟨a, b, rfl⟩ := List.append_of_mem hq
    rw [blksOf_append, show q :: b = [q] ++ b from rfl, blksOf_append, blksOf_one]
    simp; omega
  rw [blk1_length, hb] at hlen
  omega
theorem one_new (W : World) (a : Value) (t : TypeId) : ∀ j u, [a][j]? = some u → (W.alloc (.cells #[a] t)).cell? ((⟨W.heap.size, 0, none⟩ : Addr).add j) = some u := by
  intro j u h
  rw [add_plain, Mem.cell_new, ← h]
  simp
set_option maxRecDepth 100000 in
set_option maxHeartbeats 8000000 in
theorem joins_short (W : World) (A : Option Addr) (c : Nat) (l : List Int) (A2 : Option Addr) (c2 : Nat) (l2 : List Int) (hl : l.length ≤ 30) (hl2 : 0 < l2.length) (hC : Kd.C (Kd.int .u8) W A l.length l) (hr : ∀ x ∈ l, 0 ≤ x ∧ x < 256) (hC2 : Kd.C (Kd.int .u8) W A2 l2.length l2) (hr2 : ∀ x ∈ l2, 0 ≤ x ∧ x < 256) :
    Calls Try.prog 11 #[.slice A l.length c, .slice A2 l2.length c2] W fun e w' => e = .returned (.bool true) ∧ Below W.heap.size W w' := by
  have d : decide (30 < (l.length : Int)) = false := decide_eq_false (by omega)
  have d2 : ((l2.length : Int) == 0) = false := by rw [beq_eq_false_iff_ne]; omega
  have d3 : ((l2.length : Int) == -1) = false := by rw [beq_eq_false_iff_ne]; omega
  obtain ⟨i0, hi0⟩ := info60p
  have HI := Aside0.mk hi0
  obtain ⟨i3, hi3, hz3, hs3, hb3⟩ := info_parts info3
  have HI3 := Aside0.mk (And.intro hi3 (And.intro hz3 (And.intro hs3 hb3)))
  clear hi3 hz3 hs3 hb3
  have HL := Aside0.mk hl
  have HL2 := Aside0.mk hl2
  have HC := Aside0.mk hC
  have HC2 := Aside0.mk hC2
  have HR := Aside0.mk hr
  have HR2 := Aside0.mk hr2
  clear hi0 hl hl2 hC hC2 hr hr2
  go_enter Try.func11, Try.ntmps11
  go_wp2_with fail
  refine (lives11 _).mono ?_
  rintro e w1 ⟨rfl, hb⟩
  have HB1 := Aside0.mk hb
  clear hb
  go_wp2_with fail
  go_loopw [5, 6, 31] (fun v5 v6 v31 wr => ∃ (i : Nat) (rs : List S60), i ≤ l.length ∧ v31 = .int .i64 i ∧ Aside0 (rs.length = i) ∧ Aside0 (∀ r ∈ rs, (0 ≤ r.f0 ∧ r.f0 ≤ 19) ∧ 1 ≤ r.f1 ∧ r.f1 ≤ 20) ∧ Aside0 (OwnR wr W.heap.size v5 rs) ∧ Aside0 (wr.ownsRow W.heap.size 3 1 v6 (blksOf rs).length (nums .i64 (blksOf rs))) ∧ Aside0 ((blksOf rs).length ≤ 20 * i) ∧ Aside0 (Below W.heap.size W wr)) (fun _ _ v31 _ => l.length - (intOf v31).toNat)
  case atStart => exact ⟨0, [], Nat.zero_le _, rfl, ⟨rfl⟩, ⟨fun r h => by cases h⟩, ⟨own_nil _ _ _ _⟩, ⟨own_nil _ _ _ _⟩, ⟨Nat.le_refl _⟩, HB1⟩
  case round =>
    obtain ⟨i, rs, hi, rfl, HLr, HBr, HOr, HOa, HBL, HBw⟩ := hrel
    have hl := HL.out
    by_cases hlt : i < l.length
    · obtain ⟨ad, eA, hcx⟩ := C_at (Kd.C_below HC.out HBw.out) i hlt
      subst eA
      rw [show rd l (i : Int) = l[i] from by unfold rd; simp [List.getD_eq_getElem?_getD, hlt]] at hcx
      have hx := HR.out l[i] (List.getElem_mem _)
      generalize l[i] = x at hcx hx
      obtain ⟨q, hq⟩ : ∃ q, i % l2.length = q := ⟨_, rfl⟩
      have hql : q < l2.length := by rw [← hq]; exact Nat.mod_lt _ HL2.out
      have etq : Int.tmod (i : Int) (l2.length : Int) = (q : Int) := by rw [Int.tmod_eq_emod_of_nonneg (by omega), ← hq]; rfl
      obtain ⟨ad2, eA2, hcy⟩ := C_at (Kd.C_below HC2.out HBw.out) q hql
      subst eA2
      rw [show rd l2 (q : Int) = l2[q] from by unfold rd; simp [List.getD_eq_getElem?_getD, hql]] at hcy
      have hy := HR2.out l2[q] (List.getElem_mem _)
      generalize l2[q] = y at hcy hy
      obtain ⟨S, hS⟩ := Int.eq_ofNat_of_zero_le (show 0 ≤ x % 20 by omega)
      obtain ⟨Y, hY⟩ := Int.eq_ofNat_of_zero_le (show 0 ≤ y % 20 by omega)
      have hS2 : S < 20 := by omega
      have hY2 : Y < 20 := by omega
      have etx : Int.tmod x 20 = (S : Int) := by rw [Int.tmod_eq_emod_of_nonneg hx.1, hS]
      have ety : Int.tmod y 20 = (Y : Int) := by rw [Int.tmod_eq_emod_of_nonneg hy.1, hY]
      have hrl : rs.length ≤ 30 := by have := HLr.out; omega
      clear hS hY hq
      have HXY := Aside0.mk (And.intro hx hy)
      clear hx hy
      go_wp2_with (at_builtin; refine wpList_append_own _ rfl _ _ 68 rfl W.heap.size 60 i0 (.agg #[.int .i64 0, .int .i64 0]) 2 16 Try.underlying68 HI.out.1 HI.out.2.1 HI.out.2.2.1 HI.out.2.2.2 rfl (by decide) u5 rs.length (nums .i64 (flat rs)) rfl ((HOr.out.own.alloc _).alloc _) ⟨wr.heap.size + 1, 0, none⟩ 1 1 [.int .i64 S, .int .i64 (1 + (Y : Int))] rfl rfl (news2' _ _ _ _ _) (by simp [Value.oneCell']) (by unfold maxLen; omega) (by omega) (Nat.le_trans HBw.out.size (by simp; omega)) ?_; intro v' w3 hown hgrow hnil; have hcr := cell_kept HOr.out.own hgrow)
      have HO3 := Aside0.mk (OwnR.snoc hown)
      have HA3 := Aside0.mk (own_far ((HOa.out.alloc (.cells #[.int .i64 S, .int .i64 (1 + (Y : Int))] 60)).alloc (.cells #[.int .i64 S, .int .i64 (1 + (Y : Int))] 60)) hgrow (fun k hk => own_apart HOa.out HOr.out.own (by decide) k hk))
      have HX3 := Aside0.mk ((hgrow.block wr.heap.size (by simp; omega) (fun e => Nat.lt_irrefl _ (own_lt HOr.out.own _ e.symm))).trans (blk_alloc (heap_alloc_new wr (.cells #[.int .i64 S, .int .i64 (1 + (Y : Int))] 60)) (.cells #[.int .i64 S, .int .i64 (1 + (Y : Int))] 60)))
      have HB3 := Aside0.mk (pw_below_grown (below_alloc (below_alloc HBw.out _) _) u5.ownBlock (Nat.le_trans HBw.out.size (by simp; omega)) hgrow (fun k hk => own_base HOr.out.own k hk))
      clear hown hgrow hnil hcr HOr HOa HBw
      generalize wr.heap.size = xb at HX3 ⊢
      go_loopw [6, 56] (fun v6 v56 wi => ∃ j : Nat, j ≤ Y + 1 ∧ v56 = .int .i64 j ∧ Aside0 (wi.heap[xb]? = some (.cells #[.int .i64 S, .int .i64 (1 + (Y : Int))] 60 (0, 0))) ∧ Aside0 (OwnR wi W.heap.size v' (rs ++ [⟨(S : Int), 1 + (Y : Int)⟩])) ∧ Aside0 (wi.ownsRow W.heap.size 3 1 v6 ((blksOf rs).length + j) (nums .i64 (blksOf rs ++ (List.range j).map fun (t : Nat) => (S : Int) + (t : Int)))) ∧ Aside0 (Below W.heap.size W wi)) (fun _ v56 _ => Y + 1 - (intOf v56).toNat)
      case atStart => exact ⟨0, Nat.zero_le _, rfl, HX3, HO3, ⟨by simpa using HA3.out⟩, HB3⟩
      case round =>
        obtain ⟨j, hj, rfl, HXj, HOj, HAj, HBj⟩ := hrel
        have X0 := (blk_cell HXj.out 0).trans rfl
        have X1 := (blk_cell HXj.out 1).trans rfl
        have hbl := HBL.out
        have hjj := hj
        by_cases hjl : j < Y + 1
        · have dj : decide ((j : Int) < 1 + (Y : Int)) = true := decide_eq_true (by omega)
          go_wp2_with (at_builtin; refine wpList_append_own _ rfl _ _ 23 rfl W.heap.size 3 i3 (.int .i64 0) 1 8 Try.underlying23 HI3.out.1 HI3.out.2.1 HI3.out.2.2.1 HI3.out.2.2.2 rfl (by decide) u6 ((blksOf rs).length + j) (nums .i64 (blksOf rs ++ (List.range j).map fun (t : Nat) => (S : Int) + (t : Int))) rfl (HAj.out.alloc _) ⟨_, 0, none⟩ 1 1 [.int .i64 ((S : Int) + (j : Int))] rfl rfl (one_new _ _ _) (by simp [Value.oneCell']) (by unfold maxLen; omega) (by omega) (Nat.le_trans HBj.out.size (by simp)) ?_; intro v'' w5 hown hgrow hnil)
          have HO5 := Aside0.mk (show OwnR w5 W.heap.size v' (rs ++ [⟨(S : Int), 1 + (Y : Int)⟩]) from own_far (HOj.out.own.alloc _) hgrow (fun k hk => own_apart HOj.out.own HAj.out (by decide) k hk))
          have HA5 := Aside0.mk (show w5.ownsRow W.heap.size 3 1 v'' ((blksOf rs).length + (j + 1)) (nums .i64 (blksOf rs ++ (List.range (j + 1)).map fun (t : Nat) => (S : Int) + (t : Int))) from by
            rw [List.range_succ, List.map_append, ← List.append_assoc, nums_append]; exact hown)
          have HX5 := Aside0.mk ((hgrow.block xb (blk_lt (blk_alloc HXj.out _)) (fun e => absurd (own_kind HAj.out e.symm HXj.out) (by decide))).trans (blk_alloc HXj.out _))
          have HB5 := Aside0.mk (pw_below_grown (below_alloc HBj.out _) u6.ownBlock (Nat.le_trans HBj.out.size (by simp)) hgrow (fun k hk => own_base HAj.out k hk))
          clear hown hgrow hnil HXj HOj HAj HBj X0 X1
          go_roundw
          case rel => exact ⟨j + 1, by omega, by go_num, HX5, HO5, HA5, HB5⟩
          case measure => simp [intOf]; omega
        · obtain rfl : j = Y + 1 := by omega
          have dj : decide ((Y : Int) + 1 < 1 + (Y : Int)) = false := decide_eq_false (by omega)
          have hb1 : blksOf (rs ++ [⟨(S : Int), 1 + (Y : Int)⟩]) = blksOf rs ++ (List.range (Y + 1)).map fun (t : Nat) => (S : Int) + (t : Int) := by
            rw [blksOf_append, blksOf_one]; unfold blk1; dsimp only; rw [show (1 + (Y : Int)).toNat = Y + 1 from by omega]
          have hb2 : (blksOf (rs ++ [⟨(S : Int), 1 + (Y : Int)⟩])).length = (blksOf rs).length + (Y + 1) := by rw [hb1]; simp
          have hli := HLr.out
          go_wp2_with fail
          go_roundw
          case rel => exact ⟨i + 1, _, by omega, by go_num, ⟨by simp; omega⟩, ⟨by
            intro r hr
            rw [List.mem_append, List.mem_singleton] at hr
            rcases hr with hr | rfl
            · exact HBr.out r hr
            · dsimp only; omega⟩, HOj, ⟨by rw [hb2, hb1]; exact HAj.out⟩, ⟨by rw [hb2]; omega⟩, HBj⟩
          case measure => simp [intOf]; omega
    · obtain rfl : i = l.length := by omega
      have hrl : rs.length ≤ 30 := by have := HLr.out; omega
      have hall := join_all rs (fun r hr => (HBr.out r hr).2.1) rs.length (Nat.le_refl _)
      have hjl := joinOf_length rs rs.length (Nat.le_refl _)
      rw [List.take_length] at hall hjl
      have htot := total_f rs (by omega) (fun r hr => by have := HBr.out r hr; omega) (rs.length + 1) (by omega)
      obtain ⟨A5, c5, rfl, hc5, hC5⟩ := HOr.out.C (by omega)
      obtain ⟨A6, c6, rfl, hc6, hC6⟩ := own_CI HOa.out (by have := HBL.out; omega)
      have HC5 := Aside0.mk hC5
      have HCC5 := Aside0.mk hc5
      have HC6 := Aside0.mk hC6
      have HALL := Aside0.mk hall
      have HTOT := Aside0.mk htot
      have HJN := Aside0.mk (joinH A5 c5 rs hC5 (by omega) (fun r hr => by have := HBr.out r hr; omega))
      generalize joinOf rs = js at hjl HALL HJN
      have hjs : js.length ≤ 30 := by omega
      clear hall htot hC5 hc5 hC6 hc6 hjl HOr HOa
      go_wp2_with fail
      refine HJN.out.mono ?_
      rintro e w7 ⟨v7, rfl, ho7, hB7⟩
      obtain ⟨A7, c7, rfl, hc7, hC7⟩ := OwnR.C ho7 (by omega)
      have HC7 := Aside0.mk hC7
      have HCC7 := Aside0.mk hc7
      have HC57 := Aside0.mk (Kd.C_below HC5.out hB7)
      have HC67 := Aside0.mk (Kd.C_below HC6.out hB7)
      have HB7 := Aside0.mk (below_then HBw.out HBw.out.size hB7)
      clear ho7 hC7 hc7 hB7 HC5 HC6 HJN HBw
      go_wp2_with fail
      have HJB := Aside0.mk (js_bd rs js HBr.out HALL.out.1 HALL.out.2.2.2 (by have := HBL.out; omega))
      have HLB := Aside0.mk (show (blksOf js).length ≤ 600 by rw [HALL.out.1]; have := HBL.out; omega)
      go_loopw [11, 72] (fun v11 v72 wz => ∃ k : Nat, k ≤ js.length ∧ v72 = .int .i64 k ∧ v11 = .int .i64 ((blksOf (js.take k)).length : Nat) ∧ Aside0 (Below w7.heap.size w7 wz)) (fun _ v72 _ => js.length - (intOf v72).toNat)
      case atStart => exact ⟨0, Nat.zero_le _, rfl, rfl, ⟨Below.refl _ _⟩⟩
      case round =>
        obtain ⟨k, hk, rfl, rfl, HBk⟩ := hrel
        by_cases hkl : k < js.length
        · obtain ⟨ad7, eA7, q0, q1⟩ := runs_at (Kd.C_below HC7.out HBk.out) k hkl
          subst eA7
          have hbk := HJB.out js[k] (List.getElem_mem _)
          have HAT := Aside0.mk (fun (j : Nat) (hj : (j : Int) < (js[k]).f1) => blks_at js k hkl j hj)
          have HST := Aside0.mk (blks_step js k hkl)
          by_cases hk0 : k = 0
          · have d0 : decide ((0 : Int) < (k : Int)) = false := decide_eq_false (by omega)
            have dn0 : decide (0 < k) = false := decide_eq_false (by omega)
            have hn0' : (0 < k) = False := by simp; omega
            clear hk0
            generalize js[k] = r at q0 q1 hbk HAT HST
            go_wp2_with fail
            go_quiet (fail)
            go_wp2_with fail
            have HX := Aside0.mk (heap_alloc_new wr (.cells #[.int .i64 r.f0, .int .i64 r.f1] 60))
            have HBx := Aside0.mk (pw_below_drewN (below_alloc HBk.out (.cells #[.int .i64 r.f0, .int .i64 r.f1] 60)) nq)
            have HXx := Aside0.mk (show ((wr.alloc (.cells #[.int .i64 r.f0, .int .i64 r.f1] 60)).drewN nq).heap[wr.heap.size]? = some (.cells #[.int .i64 r.f0, .int .i64 r.f1] 60 (0, 0)) from HX.out)
            generalize (wr.alloc (.cells #[.int .i64 r.f0, .int .i64 r.f1] 60)).drewN nq = wx at HBx HXx ⊢
            generalize wr.heap.size = xb at HXx ⊢
            obtain ⟨f0, f1⟩ := r
            dsimp only at hbk HAT HST HXx
            obtain ⟨dd, rfl⟩ := Int.eq_ofNat_of_zero_le (show 0 ≤ f1 by omega)
            have hn0 : (blksOf (js.take k)).length + dd ≤ 600 := by
              have h1 := (List.getElem?_eq_some_iff.1 (HAT.out (dd - 1) (by omega))).1
              have := HLB.out
              omega
            have HN1 := Aside0.mk (show (blksOf (js.take (k + 1))).length = (blksOf (js.take k)).length + dd by rw [HST.out]; rfl)
            generalize (blksOf (js.take k)).length = n0 at HAT hn0 HN1 ⊢
            clear HX q0 q1 HST 
            go_loopw [11, 99] (fun v11 v99 wy => ∃ j : Nat, j ≤ dd ∧ v99 = .int .i64 j ∧ v11 = .int .i64 ((n0 : Int) + (j : Int)) ∧ Aside0 (wy.heap[xb]? = some (.cells #[.int .i64 f0, .int .i64 dd] 60 (0, 0))) ∧ Aside0 (Below w7.heap.size w7 wy)) (fun _ v99 _ => dd - (intOf v99).toNat)
            case atStart => exact ⟨0, Nat.zero_le _, rfl, by simp, HXx, HBx⟩
            case round =>
              obtain ⟨j, hj, rfl, rfl, HXj, HBj⟩ := hrel
              have X0 := (blk_cell HXj.out 0).trans rfl
              have X1 := (blk_cell HXj.out 1).trans rfl
              by_cases hjd : j < dd
              · have dj : decide ((j : Int) < (dd : Int)) = true := decide_eq_true (by omega)
                have hat := HAT.out j (by omega)
                rw [HALL.out.1] at hat
                obtain ⟨pq, hpq⟩ : ∃ x : Nat, n0 + j = x := ⟨_, rfl⟩
                have es : (n0 : Int) + (j : Int) = (pq : Int) := by omega
                rw [hpq] at hat
                have hlt9 := (List.getElem?_eq_some_iff.1 hat).1
                obtain ⟨ad9, eA9, hc9⟩ := C_at (Kd.C_below HC67.out HBj.out) pq hlt9
                subst eA9
                rw [show rd (blksOf rs) (pq : Int) = f0 + (j : Int) from by unfold rd; simp [List.getD_eq_getElem?_getD, hat]] at hc9
                have dlt : decide ((((blksOf rs).length : Nat) : Int) ≤ (pq : Int)) = false := decide_eq_false (by omega)
                have hpb9 : pq ≤ 600 := by omega
                have dln : ((blksOf rs).length ≤ pq) = False := by simp; omega
                have dwj : IntKind.i64.wrap (f0 + (j : Int)) = f0 + (j : Int) := by rw [IntKind.wrap_i64]; omega
                have HPQ := Aside0.mk hpq
                clear hat hpq
                go_wp2_with fail
                go_quiet (fail)
                go_wp2_with fail
                clear dwj dln
                go_roundw
                case rel => exact ⟨j + 1, by omega, by go_num, by rw [show (n0 : Int) + ((j + 1 : Nat) : Int) = (pq : Int) + 1 from by have := HPQ.out; omega], ⟨HXj.out⟩, ⟨pw_below_drewN HBj.out nq⟩⟩
                case measure => simp [intOf]; omega
              · obtain rfl : j = dd := by omega
                have dj : decide ((j : Int) < (j : Int)) = false := decide_eq_false (by omega)
                go_wp2_with fail
                go_roundw
                case rel => exact ⟨k + 1, by omega, by go_num, by rw [HN1.out]; go_num, HBj⟩
                case measure => simp [intOf]; omega
          · obtain ⟨k', hk'⟩ : ∃ x, k = x + 1 := ⟨k - 1, by omega⟩
            obtain ⟨ad8, eA8, z0, z1⟩ := runs_at (Kd.C_below HC7.out (below_alloc HBk.out (.cells #[.int .i64 (js[k]).f0, .int .i64 (js[k]).f1] 60))) k' (by omega)
            cases eA8
            have hap0 := HALL.out.2.1 k' (by omega)
            have hap : (js[k']'(by omega)).f0 + (js[k']'(by omega)).f1 ≠ (js[k]).f0 := by
              have e : ∀ (h : k' + 1 < js.length), js[k' + 1]'h = js[k] := fun h => by congr 1; omega
              rw [e] at hap0; exact hap0
            clear hap0
            have hpb := HJB.out (js[k']'(by omega)) (List.getElem_mem _)
            generalize js[k']'(by omega) = p at z0 z1 hap hpb
            generalize js[k] = r at q0 q1 z0 z1 hbk HAT HST hap
            have hje : (p.f0 + p.f1 == r.f0) = false := by simpa using hap
            have ek : (k : Int) - 1 = (k' : Int) := by omega
            have ew : IntKind.i64.wrap (k' : Int) = (k' : Int) := by rw [IntKind.wrap_i64]; omega
            have hkj : k' < js.length := by omega
            have d0 : decide ((0 : Int) < (k : Int)) = true := decide_eq_true (by omega)
            have dn0 : decide (0 < k) = true := decide_eq_true (by omega)
            have hn0' : (0 < k) = True := by simp; omega
            clear hk0 hk'
            go_wp2_with fail
            go_quiet (fail)
            go_wp2_with fail
            have HX := Aside0.mk (heap_alloc_new wr (.cells #[.int .i64 r.f0, .int .i64 r.f1] 60))
            have HBx := Aside0.mk (pw_below_drewN (below_alloc HBk.out (.cells #[.int .i64 r.f0, .int .i64 r.f1] 60)) nq)
            have HXx := Aside0.mk (show ((wr.alloc (.cells #[.int .i64 r.f0, .int .i64 r.f1] 60)).drewN nq).heap[wr.heap.size]? = some (.cells #[.int .i64 r.f0, .int .i64 r.f1] 60 (0, 0)) from HX.out)
            generalize (wr.alloc (.cells #[.int .i64 r.f0, .int .i64 r.f1] 60)).drewN nq = wx at HBx HXx ⊢
            generalize wr.heap.size = xb at HXx ⊢
            obtain ⟨f0, f1⟩ := r
            dsimp only at hbk HAT HST HXx
            obtain ⟨dd, rfl⟩ := Int.eq_ofNat_of_zero_le (show 0 ≤ f1 by omega)
            have hn0 : (blksOf (js.take k)).length + dd ≤ 600 := by
              have h1 := (List.getElem?_eq_some_iff.1 (HAT.out (dd - 1) (by omega))).1
              have := HLB.out
              omega
            have HN1 := Aside0.mk (show (blksOf (js.take (k + 1))).length = (blksOf (js.take k)).length + dd by rw [HST.out]; rfl)
            generalize (blksOf (js.take k)).length = n0 at HAT hn0 HN1 ⊢
            clear HX q0 q1 HST z0 z1
            go_loopw [11, 99] (fun v11 v99 wy => ∃ j : Nat, j ≤ dd ∧ v99 = .int .i64 j ∧ v11 = .int .i64 ((n0 : Int) + (j : Int)) ∧ Aside0 (wy.heap[xb]? = some (.cells #[.int .i64 f0, .int .i64 dd] 60 (0, 0))) ∧ Aside0 (Below w7.heap.size w7 wy)) (fun _ v99 _ => dd - (intOf v99).toNat)
            case atStart => exact ⟨0, Nat.zero_le _, rfl, by simp, HXx, HBx⟩
            case round =>
              obtain ⟨j, hj, rfl, rfl, HXj, HBj⟩ := hrel
              have X0 := (blk_cell HXj.out 0).trans rfl
              have X1 := (blk_cell HXj.out 1).trans rfl
              by_cases hjd : j < dd
              · have dj : decide ((j : Int) < (dd : Int)) = true := decide_eq_true (by omega)
                have hat := HAT.out j (by omega)
                rw [HALL.out.1] at hat
                obtain ⟨pq, hpq⟩ : ∃ x : Nat, n0 + j = x := ⟨_, rfl⟩
                have es : (n0 : Int) + (j : Int) = (pq : Int) := by omega
                rw [hpq] at hat
                have hlt9 := (List.getElem?_eq_some_iff.1 hat).1
                obtain ⟨ad9, eA9, hc9⟩ := C_at (Kd.C_below HC67.out HBj.out) pq hlt9
                subst eA9
                rw [show rd (blksOf rs) (pq : Int) = f0 + (j : Int) from by unfold rd; simp [List.getD_eq_getElem?_getD, hat]] at hc9
                have dlt : decide ((((blksOf rs).length : Nat) : Int) ≤ (pq : Int)) = false := decide_eq_false (by omega)
                have hpb9 : pq ≤ 600 := by omega
                have dln : ((blksOf rs).length ≤ pq) = False := by simp; omega
                have dwj : IntKind.i64.wrap (f0 + (j : Int)) = f0 + (j : Int) := by rw [IntKind.wrap_i64]; omega
                have HPQ := Aside0.mk hpq
                clear hat hpq
                go_wp2_with fail
                go_quiet (fail)
                go_wp2_with fail
                clear dwj dln
                go_roundw
                case rel => exact ⟨j + 1, by omega, by go_num, by rw [show (n0 : Int) + ((j + 1 : Nat) : Int) = (pq : Int) + 1 from by have := HPQ.out; omega], ⟨HXj.out⟩, ⟨pw_below_drewN HBj.out nq⟩⟩
                case measure => simp [intOf]; omega
              · obtain rfl : j = dd := by omega
                have dj : decide ((j : Int) < (j : Int)) = false := decide_eq_false (by omega)
                go_wp2_with fail
                go_roundw
                case rel => exact ⟨k + 1, by omega, by go_num, by rw [HN1.out]; go_num, HBj⟩
                case measure => simp [intOf]; omega
        · obtain rfl : k = js.length := by omega
          rw [show (blksOf (js.take js.length)).length = (blksOf rs).length from by rw [List.take_length, HALL.out.1]]
          have HTJ := Aside0.mk (show run_Total.f 31 js = some (sumR rs) from by
            rw [← HALL.out.2.2.1]
            exact total_f js (by omega) (fun r hr => by have := HJB.out r hr; omega) 31 (by omega))
          have HCJ := Aside0.mk (Kd.C_below HC7.out HBk.out)
          have HCR := Aside0.mk (Kd.C_below HC57.out HBk.out)
          have HBz := Aside0.mk (below_then HB7.out HB7.out.size HBk.out)
          clear HBk HC7 HC57
          go_wp2_with fail
          refine (run_Total.calls 31 A7 c7 js _ _ HCJ.out HCC7.out HTJ.out).mono ?_
          rintro e w10 ⟨rfl, hB10⟩
          have HCR2 := Aside0.mk (Kd.C_below HCR.out hB10)
          have HBy := Aside0.mk (below_then HBz.out HBz.out.size hB10)
          clear hB10
          go_wp2_with fail
          refine (run_Total.calls (rs.length + 1) A5 c5 rs _ _ HCR2.out HCC5.out HTOT.out).mono ?_
          rintro e w11 ⟨rfl, hB11⟩
          have HBx := Aside0.mk (below_then HBy.out HBy.out.size hB11)
          clear hB11
          go_wp2_with fail
          go_ret
          exact ⟨rfl, HBx.out⟩
theorem joins_all (W : World) (A : Option Addr) (c : Nat) (l : List Int) (A2 : Option Addr) (c2 : Nat) (l2 : List Int) (hC : Kd.C (Kd.int .u8) W A l.length l) (hr : ∀ x ∈ l, 0 ≤ x ∧ x < 256) (hC2 : Kd.C (Kd.int .u8) W A2 l2.length l2) (hr2 : ∀ x ∈ l2, 0 ≤ x ∧ x < 256) :
    Calls Try.prog 11 #[.slice A l.length c, .slice A2 l2.length c2] W fun e w' => e = .returned (.bool true) ∧ Below W.heap.size W w' := by
  by_cases hl : l.length ≤ 30
  · by_cases h2 : l2.length = 0
    · rw [h2]
      exact joins_none W A c l A2 c2 hl
    · exact joins_short W A c l A2 c2 l2 hl (by omega) hC hr hC2 hr2
  · exact joins_long W A c l A2 c2 l2 (by omega)
end Go.Proofs.Ytcknljndogbbhaa.Rn
