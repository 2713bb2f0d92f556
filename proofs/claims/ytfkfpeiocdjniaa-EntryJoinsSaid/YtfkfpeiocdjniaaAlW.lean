/- entry.All: the walk. Conditions: as each lemma says. -/
import Derived.Test.YtfkfpeiocdjniaaChW
import Derived.Test.YtfkfpeiocdjniaaJnW
import Derived.Maps.AppendAt
import Derived.Handy
namespace Go.Proofs.Ytfkfpeiocdjniaa.PAll
open Go.RowKit Go.Shelf Go.Proofs.YtfkfpeiocdjniaaW.PrintWords Go.Proofs.YtfkfpeiocdjniaaW.PrintLast Go.Proofs.YtfkfpeiocdjniaaW.PrintMore
attribute [local go_sem] Oper.semAt_some
set_option linter.unusedVariables false
set_option linter.unusedSimpArgs false
def chunkL (l : List Int) (j : Nat) : List Int := (l.take (64 * j + 64)).drop (64 * j)
theorem chunkL_length (l : List Int) (m j : Nat) (hl : l.length = 64 * m) (hj : j < m) : (chunkL l j).length = 64 := by
  unfold chunkL; rw [List.length_drop, List.length_take]; omega
theorem chunk_C (w : World) (ad : Addr) (l : List Int) (m j : Nat) (hl : l.length = 64 * m) (hj : j < m) (h : Kd.C (Kd.int .u8) w (some ad) l.length l) : Kd.C (Kd.int .u8) w (some (ad.add (64 * j))) (chunkL l j).length (chunkL l j) := by
  have := Kd.C_mid (k := Kd.int .u8) (lo := 64 * j) (hi := 64 * j + 64) (c := l.length + 1) h (by omega) (by omega) (by omega)
  rw [if_neg (by omega)] at this
  have e : (64 * j) * (Kd.int .u8).sz = 64 * j := by show (64 * j) * 1 = _; omega
  simp only [Option.map_some] at this
  rw [e] at this
  exact this
def decE (d : ByteArray × Int × Int) : S33 := ⟨d.1, d.2.1⟩
def allR (dec : Nat → ByteArray × Int × Int) (m : Nat) : List S33 × Int :=
  if ((List.range m).all fun j => decide ((dec j).2.2 = 0)) = true then (if dupFrom [] (nms ((List.range m).map fun j => decE (dec j))) = true then ([], 2) else ((List.range m).map (fun j => decE (dec j)), 0)) else ([], 2)
def ents (dec : Nat → ByteArray × Int × Int) {m : Nat} (pre : List (Ck m)) : List S33 := pre.map fun x => decE (dec x.1)
theorem ents_up (dec : Nat → ByteArray × Int × Int) (m : Nat) : ∀ k, k ≤ m → ents dec (upC m k) = (List.range k).map fun j => decE (dec j)
  | 0, _ => rfl
  | k + 1, h => by
    rw [upC_succ m k (by omega), List.range_succ, List.map_append, ← ents_up dec m k (by omega)]
    simp [ents]
theorem mem_up (m : Nat) : ∀ k, k ≤ m → ∀ j (hj : j < m), j < k → (⟨j, hj⟩ : Ck m) ∈ upC m k
  | 0, _, _, _, h => by omega
  | k + 1, h, j, hj, hlt => by
    rw [upC_succ m k (by omega), List.mem_append]
    by_cases e : j = k
    · subst e; right; simp
    · left; exact mem_up m k (by omega) j hj (by omega)
def ecs (l : List S33) : List Value := l.flatMap fun x => [.string x.f0, .int .i64 x.f1]
theorem ecs_snoc (l : List S33) (x : S33) : ecs (l ++ [x]) = ecs l ++ [.string x.f0, .int .i64 x.f1] := by simp [ecs]
theorem reps_ecs (w : World) (base : Nat) (ok : Nat → Prop) : ∀ l : List S33, Reps (k33.M w base ok) 2 l (ecs l)
  | [] => Reps.none _ _
  | x :: l => by
    have := Reps.c2 (show Kd.M k33 w base ok x [.string x.f0, .int .i64 x.f1] from k33_mkM w base ok x) (reps_ecs w base ok l)
    exact this
theorem R_of_ecs {W : World} {base : Nat} {v : Value} {l : List S33} (h : W.ownsRow base 33 2 v l.length (ecs l)) : Kd.R k33 33 W base (fun _ => True) v l :=
  ⟨fun _ _ => trivial, ecs l, h, reps_ecs _ _ _ l⟩
theorem cell_two_new (w : World) (x y : Value) (t : TypeId) : ∀ j u, [x, y][j]? = some u → (w.alloc (.cells #[x, y] t)).cell? ((⟨w.heap.size, 0, none⟩ : Addr).add j) = some u := by
  intro j u hj
  have h := heap_alloc_new w (.cells #[x, y] t)
  rw [add_plain, blk_cell h]
  rcases j with _ | _ | j
  · exact hj
  · exact hj
  · simp at hj
theorem res9 (tmps : Array Value) (X : World) (n0 : Nat) (v : Value) (r : Int) (h2 : tmps[2]?.getD undef = .pointer (some ⟨n0, 0, none⟩)) (h3 : tmps[3]?.getD undef = .pointer (some ⟨n0 + 1, 0, none⟩))
    (c2 : X.cell? ⟨n0, 0, none⟩ = some v) (c3 : X.cell? ⟨n0 + 1, 0, none⟩ = some (.int .i64 r)) : (results Try.f9 tmps).run Try.prog X = .ok (.tuple #[v, .int .i64 r]) X := by
  simp [results, Try.results9, go_sem, h2, h3, asAddr, c2, c3]
/-- Slices of other lengths than whole chunks. -/
theorem all_odd (A : Option Addr) (c : Nat) (len : Nat) (w0 : World) (hlen : len % 64 ≠ 0) (hl : len ≤ 100000000) :
    Calls Try.prog 9 #[.slice A len c] w0 fun e w' => e = .returned (.tuple #[.slice none 0 0, .int .i64 2]) ∧ Below w0.heap.size w0 w' := by
  have e1 : Int.tmod (len : Int) 64 = ((len % 64 : Nat) : Int) := by rw [Int.tmod_eq_emod_of_nonneg (by omega)]; omega
  have d1 : (((len % 64 : Nat) : Int) == 0) = false := beq_eq_false_iff_ne.mpr (by omega)
  have d2 : (((len % 64 : Nat) : Int) != 0) = true := bne_iff_ne.mpr (by omega)
  clear hlen hl
  go_enter Try.func9, Try.ntmps9
  go_wp2_with fail
  go_returns
  exact ⟨rfl, below_alloc (below_alloc (Below.refl _ _) _) _⟩
set_option maxRecDepth 100000 in
set_option maxHeartbeats 8000000 in
theorem all_even (k : Nat) (A : Option Addr) (c : Nat) (l : List Int) (m : Nat) (hlen : l.length = 64 * m) (hm : m ≤ 1000) (w0 : World) (hC : Kd.C (Kd.int .u8) w0 A l.length l) (hc : l.length ≤ c) (dec : Nat → ByteArray × Int × Int)
    (hdec : ∀ j, j < m → entry_Decode.f k (chunkL l j) = some (dec j)) (hd2 : ∀ j, j < m → (dec j).2.2 = 0 ∨ (dec j).2.2 = 2) (hsz : ∀ j, j < m → (dec j).1.size ≤ 1000) :
    Calls Try.prog 9 #[.slice A l.length c] w0 fun e w' => ∃ v0, e = .returned (.tuple #[v0, .int .i64 (allR dec m).2]) ∧ Kd.R k33 33 w' w0.heap.size (fun _ => True) v0 (allR dec m).1 ∧ Below w0.heap.size w0 w' := by
  have e1 : Int.tmod (l.length : Int) 64 = 0 := by rw [Int.tmod_eq_emod_of_nonneg (by omega)]; omega
  have HC := Aside0.mk hC
  have HCC := Aside0.mk hc
  have HL := Aside0.mk hlen
  have HM := Aside0.mk hm
  have HD := Aside0.mk hdec
  have HD2 := Aside0.mk hd2
  have HSZ := Aside0.mk hsz
  obtain ⟨res, hres⟩ : ∃ r, r = allR dec m := ⟨_, rfl⟩
  rw [← hres]
  have HRES := Aside0.mk hres
  clear hC hc hlen hm hdec hd2 hsz hres
  obtain ⟨i0, hi, hz0, hz1, hz2⟩ := info_parts info33
  have HI := Aside0.mk (And.intro hi (And.intro hz0 (And.intro hz1 hz2)))
  clear hi hz0 hz1 hz2
  refine (callsIn_wide (n := 9)).1 ?_
  refine callsIn_of_wp_marks Try.func9 rfl trivial ?_ rfl
  simp only [Try.ntmps9, List.size_toArray, List.length_cons, List.length_nil, Nat.reduceAdd, Nat.reduceSub, Array.replicate_succ, Array.replicate_zero, List.push_toArray, List.append_toArray, List.nil_append, List.cons_append]
  gi_wp2_with (refine ⟨trivial, ?_⟩; gi_at_call 24; refine (callsIn_wide.2 (chunk_calls _ _ _ _)).mono ?_; rintro e w' ⟨rfl, rfl⟩)
  obtain ⟨W1, hW1⟩ : ∃ W1 : World, W1 = (((((w0.alloc (.cells #[.slice none 0 0] 24)).alloc (.cells #[.int .i64 0] 25)).alloc (.cells #[.slice none 0 0] 24)).alloc (.cells #[.slice A l.length c] 22)).alloc (.cells #[.int .i64 64] 3)) := ⟨_, rfl⟩
  have k2 : Boxed W1 w0.heap.size 24 (.slice none 0 0) := by rw [hW1]; exact ((((Boxed.new w0 24 (.slice none 0 0)).alloc _).alloc _).alloc _).alloc _
  have k3 : Boxed W1 (w0.heap.size + 1) 25 (.int .i64 0) := by
    rw [hW1]
    have := Boxed.new (w0.alloc (.cells #[.slice none 0 0] 24)) 25 (.int .i64 0)
    rw [World.size_alloc] at this
    exact ((this.alloc _).alloc _).alloc _
  have k4 : Boxed W1 (w0.heap.size + 1 + 1) 24 (.slice none 0 0) := by
    rw [hW1]
    have := Boxed.new ((w0.alloc (.cells #[.slice none 0 0] 24)).alloc (.cells #[.int .i64 0] 25)) 24 (.slice none 0 0)
    rw [World.size_alloc, World.size_alloc] at this
    exact (this.alloc _).alloc _
  have ks : Boxed W1 (w0.heap.size + 1 + 1 + 1) 22 (.slice A l.length c) := by
    rw [hW1]
    have := Boxed.new (((w0.alloc (.cells #[.slice none 0 0] 24)).alloc (.cells #[.int .i64 0] 25)).alloc (.cells #[.slice none 0 0] 24)) 22 (.slice A l.length c)
    rw [World.size_alloc, World.size_alloc, World.size_alloc] at this
    exact this.alloc _
  have kn : Boxed W1 (w0.heap.size + 1 + 1 + 1 + 1) 3 (.int .i64 64) := by
    rw [hW1]
    have := Boxed.new ((((w0.alloc (.cells #[.slice none 0 0] 24)).alloc (.cells #[.int .i64 0] 25)).alloc (.cells #[.slice none 0 0] 24)).alloc (.cells #[.slice A l.length c] 22)) 3 (.int .i64 64)
    rw [World.size_alloc, World.size_alloc, World.size_alloc, World.size_alloc] at this
    exact this
  have kz : W1.heap.size = w0.heap.size + 5 := by rw [hW1]; simp
  have kb : Below w0.heap.size w0 W1 := by rw [hW1]; exact below_alloc (below_alloc (below_alloc (below_alloc (below_alloc (Below.refl _ _) _) _) _) _) _
  rw [← hW1]
  have K2 := Aside0.mk k2
  have K3 := Aside0.mk k3
  have K4 := Aside0.mk k4
  have KS := Aside0.mk ks
  have KN := Aside0.mk kn
  have KZ := Aside0.mk kz
  have KB := Aside0.mk kb
  clear k2 k3 k4 ks kn kz kb hW1 e1
  obtain ⟨n0, hn0⟩ : ∃ n0, n0 = w0.heap.size := ⟨_, rfl⟩
  rw [← hn0] at K2 K3 K4 KS KN KZ KB ⊢
  have HN0 := Aside0.mk hn0
  clear hn0
  have hA : ∃ ad : Addr, 0 < m → A = some ad := by
    by_cases h0 : 0 < m
    · obtain ⟨ad, eA, _⟩ := Kd.at_int HC.out 0 (by decide) (by have := HL.out; omega)
      exact ⟨ad, fun _ => eA⟩
    · exact ⟨⟨0, 0, none⟩, fun h => absurd h h0⟩
  obtain ⟨ad, hA⟩ := hA
  have HA := Aside0.mk hA
  clear hA
  refine wpIn_rangeFunc_ownG (α := Ck m) (w0 := W1) (Kp := fun X Y => Y.heap[n0 + 1 + 1 + 1]? = X.heap[n0 + 1 + 1 + 1]? ∧ Y.heap[n0 + 1 + 1 + 1 + 1]? = X.heap[n0 + 1 + 1 + 1 + 1]?) rfl (by decide) (gf := 32) (lb := #[.pointer (some ⟨n0 + 1 + 1 + 1, 0, none⟩), .pointer (some ⟨n0 + 1 + 1 + 1 + 1, 0, none⟩)]) rfl trivial (enters_of Try.func32 (by kernel_rfl) rfl)
    (chunk_stops Fence.wide (9 - 1) trivial rfl (by decide) (n0 + 1 + 1 + 1) (n0 + 1 + 1 + 1 + 1) m c ad A HA.out (by have := HL.out; have := HCC.out; omega) (by have := HM.out; omega) _ (fun _ _ h => h) W1 (by have := KS.out; rw [HL.out] at this; exact this) KN.out)
    (fun h k => ⟨k.1.trans h.1, k.2.trans h.2⟩)
    (fun W l' o o' hl' ho _ _ => ⟨World.putObj_heap_other (by have := KZ.out; omega), World.putObj_heap_other (by have := KZ.out; omega)⟩)
    (Below.refl _ _) (fun _ => rfl)
    (fun pre W => (∃ v, Boxed W (n0 + 1 + 1) 24 v ∧ W.ownsRow n0 33 2 v (ents dec pre).length (ecs (ents dec pre)) ∧ True) ∧ (Boxed W n0 24 (.slice none 0 0) ∧ (Boxed W (n0 + 1) 25 (.int .i64 0) ∧ (Boxed W (n0 + 1 + 1 + 1) 22 (.slice A l.length c) ∧ (Boxed W (n0 + 1 + 1 + 1 + 1) 3 (.int .i64 64) ∧ ((∀ x ∈ pre, (dec x.1).2.2 = 0) ∧ Below n0 w0 W))))))
    (fun cd pre W => cd = .ret ∧ (Boxed W n0 24 (.slice none 0 0) ∧ (Boxed W (n0 + 1) 25 (.int .i64 2) ∧ ((∃ j, j < m ∧ (dec j).2.2 ≠ 0) ∧ Below n0 w0 W))))
    (OwnFrom.and (Own.from (holdsRow_own n0 (n0 + 1 + 1) 24 33 2 (fun pre => (ents dec pre).length) (fun pre => ecs (ents dec pre)) (fun pre v => True)) _) (OwnFrom.and (Own.from (boxed_own n0 24 (fun _ => .slice none 0 0)) _) (OwnFrom.and (Own.from (boxed_own (n0 + 1) 25 (fun _ => .int .i64 0)) _) (OwnFrom.and (Own.from (boxed_own (n0 + 1 + 1 + 1) 22 (fun _ => .slice A l.length c)) _) (OwnFrom.and (Own.from (boxed_own (n0 + 1 + 1 + 1 + 1) 3 (fun _ => .int .i64 64)) _) (OwnFrom.and (ownFrom_pure _ _) (ownFrom_below (by have := HN0.out; omega) (by have := KZ.out; omega))))))))
    (fun cd => OwnFrom.and (ownFrom_pure _ _) (OwnFrom.and (Own.from (boxed_own n0 24 (fun _ => .slice none 0 0)) _) (OwnFrom.and (Own.from (boxed_own (n0 + 1) 25 (fun _ => .int .i64 2)) _) (OwnFrom.and (ownFrom_pure _ _) (ownFrom_below (by have := HN0.out; omega) (by have := KZ.out; omega))))))
    ⟨⟨_, K4.out, World.ownsRow_nil _ _ _ _, trivial⟩, K2.out, K3.out, KS.out, KN.out, fun x h => by simp at h, KB.out⟩
    (fun x => { tmps := #[.slice A l.length c, undef, .pointer (some ⟨n0, 0, none⟩), .pointer (some ⟨n0 + 1, 0, none⟩), .pointer (some ⟨n0 + 1 + 1, 0, none⟩), ckV ad x.1, undef, undef, .slice A l.length c, .int .i64 (l.length : Int), .int .i64 0, .bool false, .slice A l.length c, .func (.func 32) #[] #[.pointer (some ⟨n0 + 1 + 1 + 1, 0, none⟩), .pointer (some ⟨n0 + 1 + 1 + 1 + 1, 0, none⟩)], ckV ad x.1, undef, undef, undef, undef, undef, undef, undef, undef, undef, undef, undef, undef, undef, undef, undef], defers := [] }) ?assign ?body ?done ?stop
  case assign =>
    intro l' x W K hK
    gi_wp2
    exact hK
  case body =>
    rintro l' pre x W ⟨⟨v, hv, hrow, _⟩, hb2, hb3, hbs, hbn, hz, hB⟩ hlt
    have hAd := HA.out (by have := x.2; omega)
    have hcall : Calls Try.prog 21 #[ckV ad x.1] W fun e w' => e = .returned (.tuple #[.agg #[.string (dec x.1).1, .int .i64 (dec x.1).2.1], .int .i64 (dec x.1).2.2]) ∧ Below W.heap.size W w' := by
      have h1 := chunk_C w0 ad l m x.1 HL.out x.2 (by rw [← hAd]; exact HC.out)
      have hl64 := chunkL_length l m x.1 HL.out x.2
      have := entry_Decode.calls k (some (ad.add (64 * x.1))) 64 (chunkL l x.1) (dec x.1).1 (dec x.1).2.1 (dec x.1).2.2 W (Kd.C_below h1 (by rw [← HN0.out]; exact hB)) (by rw [hl64]; decide) (HD.out x.1 x.2)
      rw [hl64] at this
      exact this
    have hd2 := HD2.out x.1 x.2
    have hpl : (ents dec pre).length ≤ 1000 := by unfold ents; rw [List.length_map]; have := HM.out; omega
    have hsn : ents dec (pre ++ [x]) = ents dec pre ++ [⟨(dec x.1).1, (dec x.1).2.1⟩] := by unfold ents; rw [List.map_append]; rfl
    have HSN := Aside0.mk hsn
    have HPL := Aside0.mk hpl
    have HX := Aside0.mk (show ∀ y ∈ pre, (dec y.1).2.2 = 0 from hz)
    have HDX := Aside0.mk (show (dec x.1).2.2 = 0 → ∀ y ∈ pre ++ [x], (dec y.1).2.2 = 0 from fun h y hy => by
      rcases List.mem_append.1 hy with hy | hy
      · exact hz y hy
      · rw [List.mem_singleton] at hy; subst hy; exact h)
    have HDN := Aside0.mk (show (dec x.1).2.2 ≠ 0 → ∃ j, j < m ∧ (dec j).2.2 ≠ 0 from fun h => ⟨x.1, x.2, h⟩)
    clear hsn hpl hz
    gi_wp2
    refine ⟨trivial, (CallsIn.inRound l' (callsIn_wide.2 hcall)).mono ?_⟩
    clear hcall
    generalize (dec x.1).1 = nm at HSN ⊢
    generalize (dec x.1).2.1 = ino at HSN ⊢
    generalize (dec x.1).2.2 = d3 at hd2 HDX HDN ⊢
    generalize hen : ents dec pre = es at HSN hrow HPL
    generalize hen2 : ents dec (pre ++ [x]) = es2 at HSN
    rintro e W2 ⟨rfl, hb⟩
    have hkf : KeepsFrom W1.heap.size W W2 := ⟨hb.size, fun k' o' _ hk _ => (hb.block k' (blk_lt hk)).trans hk⟩
    have hn0W : n0 ≤ W.heap.size := by have := hB.size; have := HN0.out; omega
    have hW12 : W1.heap.size ≤ W2.heap.size ∨ True := .inr trivial
    have hv2 : Boxed W2 (n0 + 1 + 1) 24 v := (hb.block _ hv.lt).trans hv
    have hr2 : W2.ownsRow n0 33 2 v es.length (ecs es) := pw_own_below hrow hb
    have hc2 : Boxed W2 n0 24 (.slice none 0 0) := (hb.block _ hb2.lt).trans hb2
    have hc3 : Boxed W2 (n0 + 1) 25 (.int .i64 0) := (hb.block _ hb3.lt).trans hb3
    have hcs : Boxed W2 (n0 + 1 + 1 + 1) 22 (.slice A l.length c) := (hb.block _ hbs.lt).trans hbs
    have hcn : Boxed W2 (n0 + 1 + 1 + 1 + 1) 3 (.int .i64 64) := (hb.block _ hbn.lt).trans hbn
    have hB2 : Below n0 w0 W2 := hB.trans (hb.mono hn0W)
    have hn2 : n0 ≤ W2.heap.size := Nat.le_trans hn0W hb.size
    have hks : W2.heap[n0 + 1 + 1 + 1]? = W.heap[n0 + 1 + 1 + 1]? := hb.block _ hbs.lt
    have hkn : W2.heap[n0 + 1 + 1 + 1 + 1]? = W.heap[n0 + 1 + 1 + 1 + 1]? := hb.block _ hbn.lt
    have HF := Aside0.mk (And.intro hkf (And.intro hks (And.intro hkn (And.intro hB2 hn2))))
    have H2 := Aside0.mk (And.intro hv2 (And.intro hr2 (And.intro hc2 (And.intro hc3 (And.intro hcs hcn)))))
    clear hkf hks hkn hB2 hn2 hv2 hr2 hc2 hc3 hcs hcn hW12 hn0W hb hv hrow hb2 hb3 hbs hbn hB
    rcases hd2 with rfl | rfl
    · have HZ := Aside0.mk (HDX.out rfl)
      have hv3 := H2.out.1.alloc (.cells #[.string nm, .int .i64 ino] 33)
      have hr3 := own_alloc H2.out.2.1 (.cells #[.string nm, .int .i64 ino] 33)
      have hc := hv3.cell
      have hB3 := HF.out.2.2.2.1.alloc HF.out.2.2.2.2 (.cells #[.string nm, .int .i64 ino] 33)
      have H3 := Aside0.mk (And.intro hv3 (And.intro hr3 hB3))
      have HIS := Aside0.mk HI.out
      obtain ⟨hi, hz0, hz1, hz2⟩ := HIS.out
      have hcn2 : ∀ j u, [Value.string nm, .int .i64 ino][j]? = some u → ((W2.alloc (.cells #[.string nm, .int .i64 ino] 33)).alloc (.cells #[.string nm, .int .i64 ino] 33)).cell? ((⟨W2.heap.size + 1, 0, none⟩ : Addr).add j) = some u := by
        have := cell_two_new (W2.alloc (.cells #[.string nm, .int .i64 ino] 33)) (.string nm) (.int .i64 ino) 33
        rw [World.size_alloc] at this
        exact this
      have HCN := Aside0.mk hcn2
      clear hv3 hr3 hB3 hcn2
      gi_wp2_with (gi_at_builtin; refine wpListIn_append_own _ rfl _ _ 24 rfl n0 33 i0 _ 2 24 Try.underlying24 hi hz0 hz1 hz2 rfl (by decide) _ _ _ rfl (own_alloc H3.out.2.1 _) ⟨W2.heap.size + 1, 0, none⟩ 1 1 [.string nm, .int .i64 ino] rfl rfl HCN.out (by simp [Value.oneCell']) (by have := HPL.out; unfold maxLen; omega) (by have := HPL.out; omega) (by have := HF.out.2.2.2.2; simp; omega) ?_; intro v' w1 hown' hgrow _; obtain ⟨g', cap', rfl⟩ := ownsRow_succ hown'; obtain ⟨hv1, hv2, hr2, hk2, hbb2⟩ := H3.out.1.appended (by decide) H3.out.2.1 (by have := HF.out.2.2.2.2; simp; omega) (by omega) hown' hgrow; have hc1 := hv1.cell; have hf1 := hv1.frozen; have HG := Aside0.mk hgrow; clear hgrow hv1)
      have HGv : ((W2.alloc (.cells #[.string nm, .int .i64 ino] 33)).alloc (.cells #[.string nm, .int .i64 ino] 33)).grownBy w1 v.ownBlock := HG.out
      have bk : ∀ {B : Nat} {t : TypeId} {u : Value}, Boxed W2 B t u → t ≠ 33 → B ≠ n0 + 1 + 1 → Boxed (w1.setCell ⟨n0 + 1 + 1, 0, none⟩ (.slice (some ⟨g', 0, none⟩) (es.length + 1) cap')) B t u := fun h ht hB =>
        Boxed.other (((h.alloc _).alloc _).kept HGv ((h.alloc (.cells #[.string nm, .int .i64 ino] 33)).not_row ht H3.out.2.1)) hB _
      refine ⟨HF.out.1.trans (((KeepsOthers.alloc W2 _).trans hk2).from _), ⟨?_, ?_⟩, ⟨_, hv2, ?_, trivial⟩, bk H2.out.2.2.1 (by decide) (by omega), bk H2.out.2.2.2.1 (by decide) (by omega), bk H2.out.2.2.2.2.1 (by decide) (by omega), bk H2.out.2.2.2.2.2 (by decide) (by omega), HZ.out, H3.out.2.2.trans hbb2⟩
      · exact (bk H2.out.2.2.2.2.1 (by decide) (by omega)).trans ((H2.out.2.2.2.2.1).symm.trans HF.out.2.1)
      · exact (bk H2.out.2.2.2.2.2 (by decide) (by omega)).trans ((H2.out.2.2.2.2.2).symm.trans HF.out.2.2.1)
      · rw [hen2, HSN.out, List.length_append, ecs_snoc]
        exact hr2
    · have hc0 := (H2.out.2.2.1.alloc (.cells #[.string nm, .int .i64 ino] 33)).cell
      have hf0 := (H2.out.2.2.1.alloc (.cells #[.string nm, .int .i64 ino] 33)).frozen
      have hc1 := (H2.out.2.2.2.1.alloc (.cells #[.string nm, .int .i64 ino] 33)).cell
      have hf1 := (H2.out.2.2.2.1.alloc (.cells #[.string nm, .int .i64 ino] 33)).frozen
      gi_wp2
      exact ⟨HF.out.1.trans (((KeepsOthers.alloc W2 _).trans ((KeepsOthers.setCell _ _ _).trans (KeepsOthers.setCell _ _ _))).from _), rfl, Boxed.other (Boxed.set _ (H2.out.2.2.1.alloc _)) (by omega) _, Boxed.set _ (Boxed.other (H2.out.2.2.2.1.alloc _) (by omega) _), HDN.out (by decide), ((HF.out.2.2.2.1.alloc HF.out.2.2.2.2 _).setCell (p := ⟨n0, 0, none⟩) (Nat.le_refl _) _).setCell (p := ⟨n0 + 1, 0, none⟩) (Nat.le_succ _) _⟩
  case done =>
    rintro D ys W hD rfl ⟨⟨v, hv, hrow, _⟩, hb2, hb3, _, _, hz, hB⟩ hK
    have hall : ((List.range m).all fun j => decide ((dec j).2.2 = 0)) = true := by
      rw [List.all_eq_true]
      intro j hj
      rw [List.mem_range] at hj
      exact decide_eq_true (hz ⟨j, hj⟩ (mem_up m m (Nat.le_refl _) j hj hj))
    have hes := ents_up dec m m (Nat.le_refl _)
    rw [hes] at hrow
    have hr2 : res = if dupFrom [] (nms ((List.range m).map fun j => decE (dec j))) = true then ([], 2) else ((List.range m).map (fun j => decE (dec j)), 0) := by rw [HRES.out]; unfold allR; rw [if_pos hall]
    have hshort : ∀ x ∈ (List.range m).map (fun j => decE (dec j)), x.f0.size ≤ 1000 := by
      intro x hx
      obtain ⟨j, hj, rfl⟩ := List.mem_map.1 hx
      exact HSZ.out j (List.mem_range.1 hj)
    have hlen : ((List.range m).map (fun j => decE (dec j))).length ≤ 1000000 := by rw [List.length_map, List.length_range]; have := HM.out; omega
    generalize (List.range m).map (fun j => decE (dec j)) = es at hrow hr2 hshort hlen
    obtain ⟨A4, c4, rfl, hc4, hC4⟩ := Kd.R_reads (R_of_ecs hrow)
    have hcl := hv.cell
    have HR2 := Aside0.mk hr2
    have HSH := Aside0.mk (And.intro hshort hlen)
    have HRW := Aside0.mk hrow
    have HV := Aside0.mk (And.intro hb2 (And.intro hb3 hB))
    have HKD := Aside0.mk (And.intro hD hK)
    have HC4 := Aside0.mk (And.intro hc4 hC4)
    clear hall hes hr2 hshort hlen hrow hb2 hb3 hB hD hK hc4 hC4 hz hv
    gi_wp2
    refine ⟨trivial, (callsIn_wide.2 (twice_calls A4 c4 es W HC4.out.2 HC4.out.1 HSH.out.1 HSH.out.2)).mono ?_⟩
    rintro e W2 ⟨rfl, hb⟩
    have hn0W : n0 ≤ W.heap.size := by have := HV.out.2.2.size; have := HN0.out; omega
    have hc2 : Boxed W2 n0 24 (.slice none 0 0) := (hb.block _ HV.out.1.lt).trans HV.out.1
    have hc3 : Boxed W2 (n0 + 1) 25 (.int .i64 0) := (hb.block _ HV.out.2.1.lt).trans HV.out.2.1
    have hrw2 : W2.ownsRow n0 33 2 (.slice A4 es.length c4) es.length (ecs es) := pw_own_below HRW.out hb
    have hcl2 : W2.cell? ⟨n0 + 1 + 1, 0, none⟩ = some (.slice A4 es.length c4) := (hb.cell (World.block_lt_of_cell? W _ hcl)).trans hcl
    have hB2 : Below n0 w0 W2 := HV.out.2.2.trans (hb.mono hn0W)
    have hK2 : W2.heap[D]? = some (.deferred (some [])) := (hb.block _ (Array.getElem?_eq_some_iff.1 HKD.out.2).1).trans HKD.out.2
    have q2 := hc2.cell
    have q3 := hc3.cell
    have f2 := hc2.frozen
    have f3 := hc3.frozen
    have H2 := Aside0.mk (And.intro hc2 (And.intro hc3 (And.intro hrw2 (And.intro hB2 hK2))))
    clear hc2 hc3 hrw2 hB2 hK2 hb hn0W
    have hDn : n0 + 5 ≤ D := by have := HKD.out.1; have := KZ.out; omega
    by_cases hd : dupFrom [] (nms es) = true
    · have hrs : res = ([], 2) := by rw [HR2.out, if_pos hd]
      have HRS := Aside0.mk hrs
      rw [hd]
      clear hd hrs
      gi_wp2
      have x2 := Boxed.other (Boxed.set (.slice none 0 0) H2.out.1) (show n0 ≠ n0 + 1 by omega) (.int .i64 2)
      have x3 := Boxed.set (.int .i64 2) (Boxed.other H2.out.2.1 (show n0 + 1 ≠ n0 by omega) (.slice none 0 0))
      have xB := (H2.out.2.2.2.1.setCell (p := ⟨n0, 0, none⟩) (Nat.le_refl _) (.slice none 0 0)).setCell (p := ⟨n0 + 1, 0, none⟩) (Nat.le_succ _) (.int .i64 2)
      have xK : ((W2.setCell ⟨n0, 0, none⟩ (.slice none 0 0)).setCell ⟨n0 + 1, 0, none⟩ (.int .i64 2)).heap[D]? = some (.deferred (some [])) := (Below.heap_setCell _ _ _ D (by show D ≠ n0 + 1; omega)).trans ((Below.heap_setCell _ _ _ D (by show D ≠ n0; omega)).trans H2.out.2.2.2.2)
      generalize (W2.setCell ⟨n0, 0, none⟩ (.slice none 0 0)).setCell ⟨n0 + 1, 0, none⟩ (.int .i64 2) = X at x2 x3 xB xK ⊢
      refine ⟨by simp, .inl ⟨_, _, rfl, run_takeDeferred xK, ?_⟩⟩
      refine ⟨_, res9 _ _ n0 (.slice none 0 0) 2 rfl rfl ?_ ?_, ?_⟩
      · exact cell_kept x2.cell (grownBy_putObj' _ D (.deferred none)) (fun r e => by cases e; exact ⟨_, xK, rfl⟩)
      · exact cell_kept x3.cell (grownBy_putObj' _ D (.deferred none)) (fun r e => by cases e; exact ⟨_, xK, rfl⟩)
      · exact ⟨_, by rw [HRS.out], by rw [HRS.out]; exact Kd.R_nil _ _ _ _ _, by rw [← HN0.out]; exact xB.trans (belowK_b (w := W1) (by have := KZ.out; omega) X D _ _ HKD.out.1 xK rfl rfl)⟩
    · have hrs : res = (es, 0) := by rw [HR2.out, if_neg hd]
      have HRS := Aside0.mk hrs
      have hd' : dupFrom [] (nms es) = false := by simpa using hd
      rw [hd']
      clear hd hd' hrs
      gi_wp2
      have x2 := Boxed.other (Boxed.set (.slice A4 es.length c4) H2.out.1) (show n0 ≠ n0 + 1 by omega) (.int .i64 0)
      have x3 := Boxed.set (.int .i64 0) (Boxed.other H2.out.2.1 (show n0 + 1 ≠ n0 by omega) (.slice A4 es.length c4))
      have xB := (H2.out.2.2.2.1.setCell (p := ⟨n0, 0, none⟩) (Nat.le_refl _) (.slice A4 es.length c4)).setCell (p := ⟨n0 + 1, 0, none⟩) (Nat.le_succ _) (.int .i64 0)
      have xR1 := own_setCell (p := ⟨n0, 0, none⟩) H2.out.2.2.1 (own_ne (g := n0) (t := 24) H2.out.2.2.1 H2.out.1 (by decide)) (.slice A4 es.length c4)
      have xR := own_setCell (p := ⟨n0 + 1, 0, none⟩) xR1 (own_ne (g := n0 + 1) (t := 25) xR1 (Boxed.other H2.out.2.1 (show n0 + 1 ≠ n0 by omega) (.slice A4 es.length c4)) (by decide)) (.int .i64 0)
      clear xR1
      have xK : ((W2.setCell ⟨n0, 0, none⟩ (.slice A4 es.length c4)).setCell ⟨n0 + 1, 0, none⟩ (.int .i64 0)).heap[D]? = some (.deferred (some [])) := (Below.heap_setCell _ _ _ D (by show D ≠ n0 + 1; omega)).trans ((Below.heap_setCell _ _ _ D (by show D ≠ n0; omega)).trans H2.out.2.2.2.2)
      generalize (W2.setCell ⟨n0, 0, none⟩ (.slice A4 es.length c4)).setCell ⟨n0 + 1, 0, none⟩ (.int .i64 0) = X at x2 x3 xB xK xR ⊢
      refine ⟨by simp, .inl ⟨_, _, rfl, run_takeDeferred xK, ?_⟩⟩
      refine ⟨_, res9 _ _ n0 (.slice A4 es.length c4) 0 rfl rfl ?_ ?_, ?_⟩
      · exact cell_kept x2.cell (grownBy_putObj' _ D (.deferred none)) (fun r e => by cases e; exact ⟨_, xK, rfl⟩)
      · exact cell_kept x3.cell (grownBy_putObj' _ D (.deferred none)) (fun r e => by cases e; exact ⟨_, xK, rfl⟩)
      · exact ⟨_, by rw [HRS.out], by rw [HRS.out, ← HN0.out]; exact R_of_ecs (ownsRow_putObj xR _ xK rfl), by rw [← HN0.out]; exact xB.trans (belowK_b (w := W1) (by have := KZ.out; omega) X D _ _ HKD.out.1 xK rfl rfl)⟩
  case stop =>
    rintro D cd pre W hD _ ⟨rfl, hb2, hb3, hex, hB⟩ hK
    have hrs : res = ([], 2) := by
      rw [HRES.out]; unfold allR
      rw [if_neg (fun h => by
        obtain ⟨j, hj, hne⟩ := hex
        rw [List.all_eq_true] at h
        exact hne (of_decide_eq_true (h j (List.mem_range.2 hj))))]
    have HRS := Aside0.mk hrs
    clear hrs
    gi_wp2
    refine ⟨by simp, .inl ⟨_, _, rfl, run_takeDeferred hK, ?_⟩⟩
    refine ⟨_, res9 _ _ n0 (.slice none 0 0) 2 rfl rfl ?_ ?_, ?_⟩
    · exact cell_kept hb2.cell (grownBy_putObj' _ D (.deferred none)) (fun r e => by cases e; exact ⟨_, hK, rfl⟩)
    · exact cell_kept hb3.cell (grownBy_putObj' _ D (.deferred none)) (fun r e => by cases e; exact ⟨_, hK, rfl⟩)
    · exact ⟨_, by rw [HRS.out], by rw [HRS.out]; exact Kd.R_nil _ _ _ _ _, by rw [← HN0.out]; exact hB.trans (belowK_b (w := W1) (by have := KZ.out; omega) W D _ _ hD hK rfl rfl)⟩
end Go.Proofs.Ytfkfpeiocdjniaa.PAll
