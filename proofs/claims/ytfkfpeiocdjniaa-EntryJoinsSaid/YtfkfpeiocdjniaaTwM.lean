/- entry.twice: a map of names, in memory, and the walk. Conditions: as each lemma says. -/
import Derived.Test.YtfkfpeiocdjniaaPAllx5
import Derived.Test.YtfkfpeiocdjniaaMath
import Derived.StringKeys
import Derived.WideKeyEntry
import Derived.WideKeyMaps
import Derived.WideKeyElems
import Derived.MapKept
import Derived.Deep.QuietTactic
import Derived.BigQuiet
import Derived.KernelRfl
namespace Go.Proofs.Ytfkfpeiocdjniaa.PAll
open Go.RowKit Go.Proofs.YtfkfpeiocdjniaaW.PrintWords Go.Proofs.YtfkfpeiocdjniaaW.PrintLast Go.Proofs.YtfkfpeiocdjniaaW.PrintMore
open Go.WideMaps (KeyLaw)
set_option linter.unusedVariables false
set_option linter.unusedSimpArgs false
theorem lawS : KeyLaw Try.prog 9 := WideMaps.string_law Try.underlying9
theorem keyS (s : ByteArray) (h : s.size ≤ maxLen) : keyOf Try.prog 9 (.string s) = some (.string s.data.toList) := WideMaps.keyOf_string_mk Try.underlying9 h
def putMap (W : World) (mb : Nat) (es : Array MapEntry) (clock : Nat) : World := { W with heap := W.heap.setIfInBounds mb (.map es clock) }
def memB (s : ByteArray) (ns : List ByteArray) : Bool := ns.any fun t => decide (t = s)
theorem memB_iff {s : ByteArray} {ns : List ByteArray} : memB s ns = true ↔ s ∈ ns := by
  unfold memB; rw [List.any_eq_true]
  exact ⟨fun ⟨t, h1, h2⟩ => by rw [decide_eq_true_eq] at h2; exact h2 ▸ h1, fun h => ⟨s, h, by simp⟩⟩
theorem memB_false {s : ByteArray} {ns : List ByteArray} (h : ¬ s ∈ ns) : memB s ns = false := by
  rcases e : memB s ns with _ | _
  · rfl
  · exact absurd (memB_iff.1 e) h
/-- A map of names, all true. -/
structure SMap (W : World) (mb : Nat) (ns : List ByteArray) : Prop where
  is : ∃ (es : Array MapEntry) (clock : Nat), W.heap[mb]? = some (.map es clock) ∧ es.toList.map (fun e => e.key) = ns.map Value.string ∧ (∀ e ∈ es.toList, e.val = .bool true)
  short : ∀ s ∈ ns, s.size ≤ maxLen
theorem SMap.lt {W : World} {mb : Nat} {ns : List ByteArray} (h : SMap W mb ns) : mb < W.heap.size := by
  obtain ⟨⟨es, c, h1, _⟩, _⟩ := h
  exact (Array.getElem?_eq_some_iff.1 h1).1
theorem SMap.keep {W W' : World} {mb : Nat} {ns : List ByteArray} (h : SMap W mb ns) (hk : W'.heap[mb]? = W.heap[mb]?) : SMap W' mb ns := by
  obtain ⟨⟨es, c, h1, h2⟩, h3⟩ := h
  exact ⟨⟨es, c, hk.trans h1, h2⟩, h3⟩
theorem SMap.below {W W' : World} {mb : Nat} {ns : List ByteArray} (h : SMap W mb ns) (hb : Below W.heap.size W W') : SMap W' mb ns := h.keep (hb.block mb h.lt)
theorem SMap.alloc {W : World} {mb : Nat} {ns : List ByteArray} (h : SMap W mb ns) (o : Obj) : SMap (W.alloc o) mb ns := h.below (below_alloc (Below.refl _ _) o)
theorem SMap.new (W : World) : SMap (W.alloc (.map #[] 0)) W.heap.size [] := ⟨⟨#[], 0, (MapKept.heap_alloc W _).1, rfl, fun e h => by simp at h⟩, fun s h => by simp at h⟩
section
variable {W : World} {mb : Nat} {ns : List ByteArray}
theorem SMap.look (h : SMap W mb ns) (s : ByteArray) (hs : s.size ≤ maxLen) : (Instr.lookup 63 (.map (some mb)) (.string s) false).run Try.prog W = .ok (.bool (memB s ns)) W := by
  obtain ⟨⟨es, clock, hb, hk, hv⟩, hsh⟩ := h
  have hl := keyS s hs
  have hks : ∀ e ∈ es.toList, ∃ l, keyOf Try.prog 9 e.key = some l := by
    intro e he
    have : e.key ∈ es.toList.map (fun e => e.key) := List.mem_map_of_mem he
    rw [hk] at this
    obtain ⟨t, ht, e2⟩ := List.mem_map.1 this
    exact ⟨_, by rw [← e2]; exact keyS t (hsh t ht)⟩
  rcases lawS.find W hl es.toList hks with ⟨h1, h2⟩ | ⟨j, e0, h1, h2, h3⟩
  · have hn : ¬ s ∈ ns := by
      intro hm
      have : Value.string s ∈ es.toList.map (fun e => e.key) := by rw [hk]; exact List.mem_map_of_mem hm
      obtain ⟨e, he, e2⟩ := List.mem_map.1 this
      exact h2 e he e2
    rw [memB_false hn]
    simp [Instr.lookup, run_underlying Try.underlying63, MapKept.run_getObj_map hb, lawS.check W _ hl, h1, Try.zeroValue4, Result.andThen]
  · have he := List.mem_of_getElem? h2
    have hm : s ∈ ns := by
      have : e0.key ∈ es.toList.map (fun e => e.key) := List.mem_map_of_mem he
      rw [hk, h3] at this
      obtain ⟨t, ht, e2⟩ := List.mem_map.1 this
      cases e2
      exact ht
    rw [memB_iff.2 hm]
    rw [hv e0 he] at h1
    simp [Instr.lookup, run_underlying Try.underlying63, MapKept.run_getObj_map hb, lawS.check W _ hl, h1, Result.andThen]
theorem SMap.upd (h : SMap W mb ns) (s : ByteArray) (hs : s.size ≤ maxLen) (hn : ¬ s ∈ ns) : ∃ es c, (Instr.mapUpdate 63 (.map (some mb)) (.string s) (.bool true)).run Try.prog W = .ok () (putMap W mb es c) ∧ SMap (putMap W mb es c) mb (ns ++ [s]) := by
  have hlt := h.lt
  obtain ⟨⟨es, clock, hb, hk, hv⟩, hsh⟩ := h
  have hl := keyS s hs
  have hks : ∀ e ∈ es.toList, ∃ l, keyOf Try.prog 9 e.key = some l := by
    intro e he
    have : e.key ∈ es.toList.map (fun e => e.key) := List.mem_map_of_mem he
    rw [hk] at this
    obtain ⟨t, ht, e2⟩ := List.mem_map.1 this
    exact ⟨_, by rw [← e2]; exact keyS t (hsh t ht)⟩
  refine ⟨es.push ⟨.string s, .bool true, clock⟩, clock + 1, ?_, ⟨⟨es.push ⟨.string s, .bool true, clock⟩, clock + 1, by simp [putMap, hlt], by simp [hk], ?_⟩, ?_⟩⟩
  · rcases lawS.find W hl es.toList hks with ⟨h1, h2⟩ | ⟨j, e0, h1, h2, h3⟩
    · simp [Instr.mapUpdate, run_underlying Try.underlying63, MapKept.run_getObj_map hb, lawS.check W false hl, h1, MapKept.run_setObj_map _ hb, Result.andThen, putMap]
    · exfalso
      have : e0.key ∈ es.toList.map (fun e => e.key) := List.mem_map_of_mem (List.mem_of_getElem? h2)
      rw [hk, h3] at this
      obtain ⟨t, ht, e2⟩ := List.mem_map.1 this
      cases e2
      exact hn ht
  · intro e he
    rw [Array.toList_push, List.mem_append, List.mem_singleton] at he
    rcases he with he | rfl
    · exact hv e he
    · rfl
  · intro t ht
    rw [List.mem_append, List.mem_singleton] at ht
    rcases ht with ht | rfl
    · exact hsh t ht
    · exact hs
end
theorem putMap_below {B : Nat} {w W : World} {mb : Nat} (es : Array MapEntry) (c : Nat) (h : Below B w W) (hg : B ≤ mb) : Below B w (putMap W mb es c) :=
  ⟨h.os, h.tape, h.output, by have := h.size; simpa [putMap] using this, fun k hk => by
    rw [← h.block k hk]
    simp only [putMap]
    rw [Array.getElem?_setIfInBounds_ne (by omega)]⟩
end Go.Proofs.Ytfkfpeiocdjniaa.PAll
