/- A map of pairs of whole numbers, in memory. Conditions: as each lemma says. -/
import Derived.Test.YtcankokamleloaaGpM
import Derived.Test.YtcankokamleloaaProg
import Derived.DeepKeys3
import Derived.DeepKeys4
import Derived.WideKeyEntry
import Derived.KernelRfl
namespace Go.Proofs.Ytcankokamleloaa.Gb
open Go.RowKit Go.Proofs.Ytcankokamleloaa Go.Proofs.YtcankokamleloaaW.PrintWords
open Go.WideElems (findIdx_born findIdx_arr modify_last)
open Go.WideMaps (KeyLaw)
set_option linter.unusedVariables false
abbrev kv (x y : Int) : Value := .agg #[.int .i64 x, .int .i64 y]
theorem law32 : KeyLaw Try.prog 32 := deep_law (m := 2) (by decide) (by kernel_rfl) (by kernel_rfl) (by kernel_rfl)
theorem key_some (x y : Int) (hx : (Lit.int .i64 x).wf = true) (hy : (Lit.int .i64 y).wf = true) : ∃ l, keyOf Try.prog 32 (kv x y) = some l := by
  have h1 : Try.prog.keyType 32 = true := by kernel_rfl
  have h2 : (kv x y).formed Try.prog 32 = true := by kernel_rfl
  have hc : Try.prog.cellsOf 32 = 2 := by kernel_rfl
  have hc3 : Try.prog.cellsOf 3 = 1 := by kernel_rfl
  obtain ⟨n, hn⟩ : ∃ n, Try.prog.types.size = n + 1 := ⟨Try.prog.types.size - 1, by kernel_rfl⟩
  have u3 := Try.underlying3
  have u32 := Try.underlying32
  unfold keyOf
  rw [u32, hn]
  simp only [h1, h2]
  have hr : List.range 2 = [0, 1] := rfl
  simp [Program.keyLits, u32, u3, hc, hc3, Value.cells, hr, hx, hy]
def putMap (W : World) (mb : Nat) (es : Array MapEntry) (clock : Nat) : World := { W with heap := W.heap.setIfInBounds mb (.map es clock) }
section
variable {W : World} {mb : Nat} {es : Array MapEntry} {clock : Nat} {x y : Int}
theorem lookup_new (hb : W.heap[mb]? = some (.map es clock)) (hx : (Lit.int .i64 x).wf = true) (hy : (Lit.int .i64 y).wf = true) (hk : ∀ e ∈ es.toList, ∃ l, keyOf Try.prog 32 e.key = some l) (hn : ∀ e ∈ es.toList, e.key ≠ kv x y) :
    (Instr.lookup 30 (.map (some mb)) (kv x y) false).run Try.prog W = .ok (.int .i64 0) W := by
  obtain ⟨l, hl⟩ := key_some x y hx hy
  rcases law32.find W hl es.toList hk with ⟨h1, h2⟩ | ⟨j, e0, h1, h2, h3⟩
  · simp [Instr.lookup, run_underlying Try.underlying30, MapKept.run_getObj_map hb, law32.check W _ hl, h1, Try.zeroValue3, Result.andThen]
  · exact absurd h3 (hn e0 (List.mem_of_getElem? h2))
theorem lookup_zero (hb : W.heap[mb]? = some (.map (es.push ⟨kv x y, .int .i64 0, clock⟩) (clock + 1))) (hx : (Lit.int .i64 x).wf = true) (hy : (Lit.int .i64 y).wf = true) (hk : ∀ e ∈ es.toList, ∃ l, keyOf Try.prog 32 e.key = some l) (hn : ∀ e ∈ es.toList, e.key ≠ kv x y) :
    (Instr.lookup 30 (.map (some mb)) (kv x y) false).run Try.prog W = .ok (.int .i64 0) W := by
  obtain ⟨l, hl⟩ := key_some x y hx hy
  rcases law32.find W hl (es.push ⟨kv x y, .int .i64 0, clock⟩).toList (by
      intro e he
      rw [Array.toList_push, List.mem_append, List.mem_singleton] at he
      rcases he with he | rfl
      · exact hk e he
      · exact ⟨l, hl⟩) with ⟨h1, h2⟩ | ⟨j, e0, h1, h2, h3⟩
  · exact absurd rfl (h2 ⟨kv x y, .int .i64 0, clock⟩ (by simp))
  · have hv : e0.val = .int .i64 0 := by
      have hm := List.mem_of_getElem? h2
      rw [Array.toList_push, List.mem_append, List.mem_singleton] at hm
      rcases hm with hm | rfl
      · exact absurd h3 (hn e0 hm)
      · rfl
    rw [hv, Array.toList_push] at h1
    simp [Instr.lookup, run_underlying Try.underlying30, MapKept.run_getObj_map hb, law32.check W _ hl, h1, Result.andThen]
theorem entry_new (hb : W.heap[mb]? = some (.map es clock)) (hx : (Lit.int .i64 x).wf = true) (hy : (Lit.int .i64 y).wf = true) (hk : ∀ e ∈ es.toList, ∃ l, keyOf Try.prog 32 e.key = some l) (hn : ∀ e ∈ es.toList, e.key ≠ kv x y) :
    (Instr.mapEntry 30 (.map (some mb)) (kv x y)).run Try.prog W = .ok (.tuple #[.int .i64 0, goInt clock]) (putMap W mb (es.push ⟨kv x y, .int .i64 0, clock⟩) (clock + 1)) := by
  obtain ⟨l, hl⟩ := key_some x y hx hy
  rcases law32.find W hl es.toList hk with ⟨h1, h2⟩ | ⟨j, e0, h1, h2, h3⟩
  · simp [Instr.mapEntry, run_underlying Try.underlying30, MapKept.run_getObj_map hb, law32.check W false hl, h1, Try.zeroValue3, MapKept.run_setObj_map _ hb, Result.andThen, putMap]
  · exact absurd h3 (hn e0 (List.mem_of_getElem? h2))
theorem store_new (hb : W.heap[mb]? = some (.map (es.push ⟨kv x y, .int .i64 0, clock⟩) (clock + 1))) (hs : ∀ e ∈ es.toList, e.born < clock) (v : Value) :
    (Instr.entryStore 30 (.map (some mb)) (.int .i64 clock) v).run Try.prog W = .ok () (putMap W mb (es.push ⟨kv x y, v, clock⟩) (clock + 1)) := by
  have hidx : (es.push ⟨kv x y, .int .i64 0, clock⟩).findIdx? (fun e => ((e.born : Nat) : Int) == ((clock : Nat) : Int)) = some es.size := by
    rw [findIdx_arr, Array.toList_push, List.findIdx?_append]
    have hnone : es.toList.findIdx? (fun e => ((e.born : Nat) : Int) == ((clock : Nat) : Int)) = none := by
      rw [List.findIdx?_eq_none_iff]
      intro e he
      have := hs e he
      rw [beq_eq_false_iff_ne]; omega
    rw [hnone]
    simp
  have hmod : (es.push ⟨kv x y, .int .i64 0, clock⟩).modify es.size (fun e => { e with val := v }) = es.push ⟨kv x y, v, clock⟩ := by
    apply Array.ext'
    rw [Array.toList_modify, Array.toList_push, Array.toList_push, ← Array.length_toList, modify_last]
  simp [Instr.entryStore, MapKept.run_getObj_map hb, asInt, asIntOf, hidx, hmod, MapKept.run_setObj_map _ hb, Result.andThen, putMap]
theorem len_run (hb : W.heap[mb]? = some (.map es clock)) (ty : TypeId) : (Builtin.len_ #[30] ty #[.map (some mb)]).run Try.prog W = .ok (.int .i64 es.size) W := by
  simp [Builtin.len_, run_underlying Try.underlying30, MapKept.run_getObj_map hb]
  rfl
end
/-- The map behind b rounds. -/
structure Inv (bm : Int) (b : Nat) (es : Array MapEntry) : Prop where
  size : es.size = b
  keys : ∀ e ∈ es.toList, ∃ j : Nat, j < b ∧ e.key = kv (bm + ((j / 64 : Nat) : Int)) ((j % 64 : Nat) : Int)
  born : ∀ e ∈ es.toList, e.born < b
theorem wf_mk {x : Int} (h0 : -9223372036854775808 ≤ x) (h1 : x ≤ 9223372036854775807) : (Lit.int .i64 x).wf = true := by
  simp [Lit.wf, IntKind.min, IntKind.max, IntKind.bits, IntKind.signed]; omega
theorem Inv.nil (bm : Int) : Inv bm 0 #[] := ⟨rfl, fun e h => by simp at h, fun e h => by simp at h⟩
theorem Inv.push {bm : Int} {b : Nat} {es : Array MapEntry} (h : Inv bm b es) (v : Value) : Inv bm (b + 1) (es.push ⟨kv (bm + ((b / 64 : Nat) : Int)) ((b % 64 : Nat) : Int), v, b⟩) := by
  refine ⟨by rw [Array.size_push, h.size], fun e he => ?_, fun e he => ?_⟩
  · rw [Array.toList_push, List.mem_append, List.mem_singleton] at he
    rcases he with he | rfl
    · obtain ⟨j, h1, h2⟩ := h.keys e he
      exact ⟨j, by omega, h2⟩
    · exact ⟨b, by omega, rfl⟩
  · rw [Array.toList_push, List.mem_append, List.mem_singleton] at he
    rcases he with he | rfl
    · have := h.born e he; omega
    · exact Nat.lt_succ_self b
theorem Inv.some_ {bm : Int} {b : Nat} {es : Array MapEntry} (h : Inv bm b es) (h0 : 0 ≤ bm) (h1 : bm ≤ 1000000) (hb : b ≤ 100000) : ∀ e ∈ es.toList, ∃ l, keyOf Try.prog 32 e.key = some l := by
  intro e he
  obtain ⟨j, h2, h3⟩ := h.keys e he
  rw [h3]
  exact key_some _ _ (wf_mk (by omega) (by omega)) (wf_mk (by omega) (by omega))
theorem Inv.fresh {bm : Int} {b : Nat} {es : Array MapEntry} (h : Inv bm b es) : ∀ e ∈ es.toList, e.key ≠ kv (bm + ((b / 64 : Nat) : Int)) ((b % 64 : Nat) : Int) := by
  intro e he e2
  obtain ⟨j, h2, h3⟩ := h.keys e he
  rw [h3] at e2
  simp only [kv, Value.agg.injEq] at e2
  have e3 := congrArg (fun a : Array Value => a[0]?) e2
  have e4 := congrArg (fun a : Array Value => a[1]?) e2
  simp at e3 e4
  omega
theorem putMap_at {W : World} {mb : Nat} {es es' : Array MapEntry} {c c' : Nat} (hb : W.heap[mb]? = some (.map es c)) : (putMap W mb es' c').heap[mb]? = some (.map es' c') := by
  have := (Array.getElem?_eq_some_iff.1 hb).1
  simp [putMap, this]
theorem putMap_far {W : World} {mb g : Nat} {es' : Array MapEntry} {c' : Nat} (hg : g ≠ mb) : (putMap W mb es' c').heap[g]? = W.heap[g]? := by
  simp only [putMap]
  rw [Array.getElem?_setIfInBounds_ne (fun e => hg e.symm)]
theorem putMap_below {B : Nat} {w W : World} {mb : Nat} (es : Array MapEntry) (c : Nat) (h : Below B w W) (hg : B ≤ mb) : Below B w (putMap W mb es c) :=
  ⟨h.os, h.tape, h.output, by have := h.size; simpa [putMap] using this, fun k hk => by
    rw [← h.block k hk]
    exact putMap_far (by omega)⟩
end Go.Proofs.Ytcankokamleloaa.Gb
