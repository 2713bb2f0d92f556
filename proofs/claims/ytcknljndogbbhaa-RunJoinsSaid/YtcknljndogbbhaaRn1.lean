/- Runs of free blocks: what run.Free tells. Conditions: as each lemma says. -/
import Derived.Test.YtcknljndogbbhaaBmR
import Derived.Test.YtcknljndogbbhaaBmL
namespace Go.Proofs.Ytcknljndogbbhaa.Rn
open Go.RowKit Go.Proofs.Ytcknljndogbbhaa Go.Proofs.Ytcknljndogbbhaa.Bm Go.Proofs.Ytcknljndogbbhaa.PAll Go.Proofs.YtcknljndogbbhaaW.PrintWords Go.Proofs.YtcknljndogbbhaaW.PrintLast Go.Proofs.YtcknljndogbbhaaW.PrintMore
attribute [local go_sem] max2_int min2_int max_two min_two
set_option linter.unusedVariables false
def flat (rs : List S60) : List Int := rs.flatMap fun r => [r.f0, r.f1]
theorem flat_append (a b : List S60) : flat (a ++ b) = flat a ++ flat b := by simp [flat]
theorem flat_length (rs : List S60) : (flat rs).length = rs.length * 2 := by
  induction rs with
  | nil => rfl
  | cons r rs ih => simp only [flat, List.flatMap_cons, List.length_append, List.length_cons] at ih ⊢; simp at ih ⊢; omega
theorem flat_get (rs : List S60) : ∀ (i : Nat) (r : S60), rs[i]? = some r → (flat rs)[i * 2]? = some r.f0 ∧ (flat rs)[i * 2 + 1]? = some r.f1 := by
  induction rs with
  | nil => intro i r h; simp at h
  | cons x rs ih =>
    intro i r h
    have e : flat (x :: rs) = x.f0 :: x.f1 :: flat rs := by simp [flat]
    rw [e]
    rcases i with _ | i
    · simp at h; subst h; exact ⟨rfl, rfl⟩
    · have := ih i r (by simpa using h)
      rw [show (i + 1) * 2 = i * 2 + 1 + 1 from by omega]
      exact ⟨by simpa using this.1, by simpa using this.2⟩
/-- A row of runs of the call's own. -/
def OwnR (W : World) (base : Nat) (v : Value) (rs : List S60) : Prop := W.ownsRow base 60 2 v rs.length (nums .i64 (flat rs))
theorem OwnR.own {W : World} {base : Nat} {v : Value} {rs : List S60} (h : OwnR W base v rs) : W.ownsRow base 60 2 v rs.length (nums .i64 (flat rs)) := h
theorem OwnR.C {W : World} {base : Nat} {v : Value} {rs : List S60} (h : OwnR W base v rs) (hm : rs.length ≤ 9223372036854775807) : ∃ A c, v = .slice A rs.length c ∧ rs.length ≤ c ∧ Kd.C k60 W A rs.length rs := by
  obtain ⟨h1, h2⟩ := h
  rcases h2 with ⟨rfl, h0⟩ | ⟨g, cap, cur, rfl, hg, hh, hle, _, hsz, htake⟩
  · rcases rs with _ | ⟨r, rs⟩
    · exact ⟨none, 0, rfl, Nat.le_refl _, Kd.C_nil _ _⟩
    · simp at h0
  · refine ⟨_, cap, rfl, hle, rfl, hm, fun _ => ⟨⟨g, 0, none⟩, rfl, fun j p hp => ⟨[.int .i64 p.f0, .int .i64 p.f1], rfl, k60_mk W p, fun i u hu => ?_⟩⟩⟩
    have hj := (List.getElem?_eq_some_iff.1 hp).1
    obtain ⟨f0, f1⟩ := flat_get rs j p hp
    have hcell : ∀ t x, t < rs.length * 2 → (flat rs)[t]? = some x → W.cell? ((⟨g, 0, none⟩ : Addr).add t) = some (.int .i64 x) := by
      intro t x ht hx
      rw [add_plain, blk_cell hh, ← Array.getElem?_toList]
      have := congrArg (fun l => l[t]?) htake
      rw [List.getElem?_take_of_lt ht] at this
      rw [this]; simp [nums, hx]
    have hsz2 : k60.sz = 2 := rfl
    rw [hsz2]
    rcases i with _ | _ | i
    · simp at hu; subst hu; exact hcell (j * 2) _ (by omega) f0
    · simp at hu; subst hu; exact hcell (j * 2 + 1) _ (by omega) f1
    · simp at hu
theorem OwnR.below {W W' : World} {base : Nat} {v : Value} {rs : List S60} (h : OwnR W base v rs) (hb : Below W.heap.size W W') : OwnR W' base v rs := pw_own_below h hb
/-- The runs from a block on. -/
def freeR (m : List Bool) : Nat → Nat → List S60
  | 0, _ => []
  | d + 1, p =>
    let s := nextB m false (m.length - p) p
    if s < 0 then [] else
      let e := nextB m true (m.length - s.toNat) s.toNat
      let e' := if e < 0 then (m.length : Int) else e
      ⟨s, e' - s⟩ :: freeR m d e'.toNat
theorem freeR_length (m : List Bool) : ∀ d p, (freeR m d p).length ≤ d
  | 0, _ => Nat.le_refl _
  | d + 1, p => by
    simp only [freeR]
    split
    · simp
    · have := freeR_length m d (if nextB m true (m.length - (nextB m false (m.length - p) p).toNat) (nextB m false (m.length - p) p).toNat < 0 then (m.length : Int) else nextB m true (m.length - (nextB m false (m.length - p) p).toNat) (nextB m false (m.length - p) p).toNat).toNat
      simp; omega
/-- One step of the runs: none, or one and the rest. -/
theorem freeR_step (m : List Bool) (d p : Nat) (hp : p ≤ m.length) :
    (nextB m false (m.length - p) p = -1 ∧ freeR m (d + 1) p = [] ∧ ∀ i, p ≤ i → i < m.length → m.getD i false = true) ∨
    ∃ s e : Nat, p ≤ s ∧ s < e ∧ e ≤ m.length ∧ nextB m false (m.length - p) p = (s : Int) ∧ freeR m (d + 1) p = ⟨(s : Int), (e : Int) - s⟩ :: freeR m d e ∧
      ((nextB m true (m.length - s) s = -1 ∧ e = m.length) ∨ (nextB m true (m.length - s) s = (e : Int) ∧ e < m.length ∧ m.getD e false = true)) ∧
      (∀ i, p ≤ i → i < s → m.getD i false = true) ∧ (∀ i, s ≤ i → i < e → m.getD i false = false) := by
  rcases nextB_spec m false (m.length - p) p (by omega) with ⟨h1, h2⟩ | ⟨s, h1, h2, h3, h4, h5⟩
  · refine .inl ⟨h1, ?_, fun i a b => by have := h2 i a b; simpa using this⟩
    simp only [freeR]
    rw [h1, if_pos (by omega)]
  · have hs : m.getD s false = false := by simpa using h4
    rcases nextB_spec m true (m.length - s) s (by omega) with ⟨k1, k2⟩ | ⟨q, k1, k2, k3, k4, k5⟩
    · refine .inr ⟨s, m.length, h1, h2, Nat.le_refl _, h3, ?_, .inl ⟨k1, rfl⟩, fun i a b => by have := h5 i a b; simpa using this, fun i a b => by have := k2 i a b; simpa using this⟩
      simp only [freeR]
      rw [h3, if_neg (by omega), Int.toNat_natCast, k1, if_pos (by omega), Int.toNat_natCast]
    · have hsq : s < q := by
        rcases Nat.eq_or_lt_of_le k1 with e | e
        · subst e; rw [hs] at k4; simp at k4
        · exact e
      refine .inr ⟨s, q, h1, hsq, by omega, h3, ?_, .inr ⟨k3, k2, by simpa using k4⟩, fun i a b => by have := h5 i a b; simpa using this, fun i a b => by have := k5 i a b; simpa using this⟩
      simp only [freeR]
      rw [h3, if_neg (by omega), Int.toNat_natCast, k3, if_neg (by omega), Int.toNat_natCast]
def runsOf (m : List Bool) : List S60 := freeR m (m.length + 1) 0
theorem info60 : (Try.prog.info? 60).map (fun i => (i.zero, i.size, i.bytes)) = some (some (.agg #[(.int .i64 0), (.int .i64 0)]), 2, 16) := by kernel_rfl
theorem info60p : ∃ i, Try.prog.info? 60 = some i ∧ i.zero = some (.agg #[.int .i64 0, .int .i64 0]) ∧ i.size = 2 ∧ i.bytes = 16 := by
  obtain ⟨i, hi, h⟩ := Option.map_eq_some_iff.1 info60
  simp only [Prod.mk.injEq] at h
  exact ⟨i, hi, h.1, h.2.1, h.2.2⟩
theorem news2 (W : World) (a b : Value) (t : TypeId) : ∀ j u, [a, b][j]? = some u → (W.alloc (.cells #[a, b] t)).cell? ((⟨W.heap.size, 0, none⟩ : Addr).add j) = some u := by
  intro j u h
  rw [add_plain, Mem.cell_new, ← h]
  simp
theorem OwnR.snoc {W : World} {base : Nat} {v : Value} {rs : List S60} {a b : Int} (h : W.ownsRow base 60 2 v (rs.length + 1) (nums .i64 (flat rs) ++ [.int .i64 a, .int .i64 b])) : OwnR W base v (rs ++ [⟨a, b⟩]) := by
  unfold OwnR
  rw [flat_append, nums_append, List.length_append]
  exact h
set_option maxHeartbeats 2000000 in
theorem freeRunsH {W : World} {g b : Nat} {m : List Bool} (h : Holds W g b m) (hn : m.length ≤ 65534) :
    Calls Try.prog 38 #[.pointer (some ⟨g, 0, none⟩)] W fun e w' => ∃ v, e = .returned v ∧ OwnR w' W.heap.size v (runsOf m) ∧ Below W.heap.size W w' := by
  have HH := Aside0.mk h
  obtain ⟨i0, hi0⟩ := info60p
  have HI := Aside0.mk hi0
  have HN := Aside0.mk hn
  clear h hi0 hn
  go_enter Try.func38, Try.ntmps38
  go_wp2_with fail
  refine (nextH HH.out HN.out 0 false (by omega) (by omega)).mono ?_
  rintro e w1 ⟨rfl, rfl⟩
  obtain ⟨F0, hF0⟩ : ∃ F0, nextB m false (m.length - (0 : Int).toNat) (0 : Int).toNat = F0 := ⟨_, rfl⟩
  rw [hF0]
  have HF := Aside0.mk hF0
  clear hF0
  go_wp2_with fail
  go_loopg [3, 4] (m.length + 1) (fun gk v3 v4 wr => ∃ (p : Nat) (rs : List S60), Aside0 (m.length < gk + p ∧ p ≤ m.length) ∧ v4 = .int .i64 (nextB m false (m.length - p) p) ∧ Aside0 (rs ++ freeR m gk p = runsOf m) ∧ Aside0 (OwnR wr W.heap.size v3 rs) ∧ Aside0 (Below W.heap.size W wr))
  case atStart => exact ⟨0, [], ⟨by omega⟩, by rw [← HF.out]; rfl, ⟨rfl⟩, ⟨own_nil _ _ _ _⟩, ⟨Below.refl _ _⟩⟩
  case round =>
    obtain ⟨p, rs, HP, rfl, HE, HO, HB⟩ := hrel
    obtain ⟨gk, rfl⟩ : ∃ x, gk = x + 1 := ⟨gk - 1, by have := HP.out; omega⟩
    have HHr := Aside0.mk (HH.out.below HB.out)
    have hlen : rs.length ≤ m.length + 1 := by
      have h1 := congrArg List.length HE.out
      have h2 := freeR_length m (m.length + 1) 0
      rw [List.length_append] at h1
      unfold runsOf at h1
      omega
    have HLEN := Aside0.mk hlen
    clear hlen
    rcases freeR_step m gk p HP.out.2 with ⟨h1, h2, _⟩ | ⟨s, e, h1, h2, h3, h4, h5, h6, _, _⟩
    · have HX := Aside0.mk (HE.out ▸ (by rw [h2, List.append_nil] : rs ++ freeR m (gk + 1) p = rs))
      have HR := Aside0.mk (show rs = runsOf m by have := HE.out; rw [h2, List.append_nil] at this; exact this)
      clear h2
      rw [h1]
      clear h1
      go_wp2_with fail
      go_ret
      exact ⟨_, rfl, HR.out ▸ HO.out, HB.out⟩
    · have HE2 := Aside0.mk (show (rs ++ [⟨(s : Int), (e : Int) - s⟩]) ++ freeR m gk e = runsOf m by have := HE.out; rw [h5] at this; rw [← this]; simp)
      have HP2 := Aside0.mk (show m.length < gk + e ∧ e ≤ m.length by have := HP.out; omega)
      have HSE := Aside0.mk (And.intro h1 (And.intro h2 h3))
      rw [h4]
      clear h4 h5 h1 h2 h3 HE HP
      have key : ∀ (V : Value) (w1 : World), OwnR w1 W.heap.size V (rs ++ [⟨(s : Int), (e : Int) - s⟩]) → OwnR w1 W.heap.size V (rs ++ [⟨(s : Int), (e : Int) - s⟩]) := fun _ _ h => h
      clear key
      rcases h6 with ⟨k1, k2⟩ | ⟨k1, k2, k3⟩
      · have KE := Aside0.mk k2
        have d1 : decide ((-1 : Int) < 0) = true := rfl
        go_wp2_with fail
        refine (nextH HHr.out HN.out (s : Int) true (by omega) (by have := HSE.out; have := HN.out; omega)).mono ?_
        rintro e' w1 ⟨rfl, rfl⟩
        rw [Int.toNat_natCast, k1]
        go_wp2_with fail
        refine (lenH HHr.out).mono ?_
        rintro e' w1 ⟨rfl, rfl⟩
        rw [← KE.out]
        clear k1 k2
        have hs0 : (0 : Int) ≤ s := by omega
        have hs1 : s < e := HSE.out.2.1
        have he1 : e ≤ 65534 := by have := HSE.out; have := HN.out; omega
        go_wp2_with (at_builtin; refine wpList_append_own _ rfl _ _ 68 rfl W.heap.size 60 i0 (.agg #[.int .i64 0, .int .i64 0]) 2 16 Try.underlying68 HI.out.1 HI.out.2.1 HI.out.2.2.1 HI.out.2.2.2 rfl (by decide) u3 rs.length (nums .i64 (flat rs)) rfl (HO.out.own.alloc _) ⟨wr.heap.size, 0, none⟩ 1 1 [.int .i64 s, .int .i64 ((e : Int) - s)] rfl rfl (news2 _ _ _ _) (by simp [Value.oneCell']) (by unfold maxLen; have := HLEN.out; have := HN.out; omega) (by have := HLEN.out; have := HN.out; omega) (Nat.le_trans HB.out.size (by simp)) ?_; intro v' w1 hown hgrow hnil)
        have HO2 := Aside0.mk (OwnR.snoc hown)
        have HB2 := Aside0.mk (pw_below_grown (below_alloc HB.out _) u3.ownBlock (Nat.le_trans HB.out.size (by simp)) hgrow (fun k hk => own_base HO.out.own k hk))
        clear hown hgrow hnil
        go_wp2_with fail
        refine (nextH (HH.out.below HB2.out) HN.out (e : Int) false (by omega) (by omega)).mono ?_
        rintro e' w2 ⟨rfl, rfl⟩
        rw [Int.toNat_natCast]
        go_wp2_with fail
        go_roundg gk
        case measure => omega
        case rel => exact ⟨e, _, HP2, rfl, HE2, HO2, HB2⟩
      · have HK := Aside0.mk (And.intro k2 k3)
        have d1 : decide ((e : Int) < 0) = false := decide_eq_false (by omega)
        go_wp2_with fail
        refine (nextH HHr.out HN.out (s : Int) true (by omega) (by have := HSE.out; have := HN.out; omega)).mono ?_
        rintro e' w1 ⟨rfl, rfl⟩
        rw [Int.toNat_natCast, k1]
        clear k1 k2 k3
        have hs0 : (0 : Int) ≤ s := by omega
        have hs1 : s < e := HSE.out.2.1
        have he1 : e ≤ 65534 := by have := HSE.out; have := HN.out; omega
        go_wp2_with (at_builtin; refine wpList_append_own _ rfl _ _ 68 rfl W.heap.size 60 i0 (.agg #[.int .i64 0, .int .i64 0]) 2 16 Try.underlying68 HI.out.1 HI.out.2.1 HI.out.2.2.1 HI.out.2.2.2 rfl (by decide) u3 rs.length (nums .i64 (flat rs)) rfl (HO.out.own.alloc _) ⟨wr.heap.size, 0, none⟩ 1 1 [.int .i64 s, .int .i64 ((e : Int) - s)] rfl rfl (news2 _ _ _ _) (by simp [Value.oneCell']) (by unfold maxLen; have := HLEN.out; have := HN.out; omega) (by have := HLEN.out; have := HN.out; omega) (Nat.le_trans HB.out.size (by simp)) ?_; intro v' w1 hown hgrow hnil)
        have HO2 := Aside0.mk (OwnR.snoc hown)
        have HB2 := Aside0.mk (pw_below_grown (below_alloc HB.out _) u3.ownBlock (Nat.le_trans HB.out.size (by simp)) hgrow (fun k hk => own_base HO.out.own k hk))
        clear hown hgrow hnil
        go_wp2_with fail
        refine (nextH (HH.out.below HB2.out) HN.out (e : Int) false (by omega) (by omega)).mono ?_
        rintro e' w2 ⟨rfl, rfl⟩
        rw [Int.toNat_natCast]
        go_wp2_with fail
        go_roundg gk
        case measure => omega
        case rel => exact ⟨e, _, HP2, rfl, HE2, HO2, HB2⟩
end Go.Proofs.Ytcknljndogbbhaa.Rn
