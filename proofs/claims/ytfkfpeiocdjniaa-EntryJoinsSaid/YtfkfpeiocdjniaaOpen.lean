/- An argument's slice of whatever elements, read as a list. Conditions: as each lemma says. -/
import Derived.Test.YtfkfpeiocdjniaaWMore
import Derived.Deep.Slices
import Derived.ChangeSame
import Derived.SizedLaws
namespace Go.Proofs.Ytfkfpeiocdjniaa.Open
open Go Go.RowKit Go.ChangeShapes Go.WideShapes Go.Proofs.YtfkfpeiocdjniaaW.PrintWords Go.Proofs.YtfkfpeiocdjniaaW.PrintLast Go.Proofs.YtfkfpeiocdjniaaW.PrintMore
section
variable {H : Type} {enc : TypeId × Value → H} {P : Program} {W : World} {base : Nat} {spare : Nat → Bool} {held : Bool}
theorem open_row_fuel {α : Type} [Inhabited α] (d : Kd α) (ok : α → Prop) {t e : TypeId} {a : Option Addr} {len cap fuel : Nat} {x : DataW H × List MemPlace} (hu : P.underlying t = some (.slice e)) (hc : P.cellsOf e = d.sz)
    (hel : ∀ n cs y, cs.length = d.sz → DataW.trod enc P W base spare held n e cs = some y → ∃ v : α, d.K W v cs ∧ ok v)
    (h : DataW.trod enc P W base spare held fuel t [.slice a len cap] = some x) : ∃ l : List α, l.length = len ∧ len ≤ cap ∧ d.C W a len l ∧ ∀ v ∈ l, ok v := by
  rcases Deep.open_slice hu h with ⟨hcs, _⟩ | ⟨a', len', cap', m, n, D, Pl, hcs, _, hl, hm, hmm, _, hx⟩
  · simp at hcs
    obtain ⟨rfl, rfl, rfl⟩ := hcs
    exact ⟨[], rfl, Nat.le_refl _, Kd.C_nil d W, fun v hv => by cases hv⟩
  · simp at hcs
    obtain ⟨rfl, rfl, rfl⟩ := hcs
    have hlm : len ≤ m := by rw [hmm]; split <;> omega
    have key : ∀ i, i < len → ∃ v : α, ok v ∧ ∃ c : List Value, c.length = d.sz ∧ d.K W v c ∧ ∀ j u, c[j]? = some u → W.cell? (a'.add (i * d.sz + j)) = some u := by
      intro i hi
      obtain ⟨cs, h1, h2⟩ := hx i (by omega)
      obtain ⟨_, h3, h4⟩ := World.cells?_some h1
      rw [hc] at h3 h4
      obtain ⟨v, hK, hv⟩ := hel n cs _ h3 h2
      refine ⟨v, hv, cs, h3, hK, fun j u hj => ?_⟩
      have hjl : j < d.sz := by have := (List.getElem?_eq_some_iff.1 hj).1; omega
      rw [← Deep.add_add, h4 j hjl]; exact hj
    obtain ⟨f, hf⟩ := Deep.choose_lt key
    refine ⟨(List.range len).map f, by simp, hl, ⟨by simp, by unfold maxLen at hm; omega, fun hn => ⟨a', rfl, fun j p hj => ?_⟩⟩, fun v hv => ?_⟩
    · have hjl : j < len := by have := (List.getElem?_eq_some_iff.1 hj).1; simpa using this
      obtain ⟨_, c, q1, q2, q3⟩ := hf j hjl
      have : p = f j := by simp [hjl] at hj; exact hj.symm
      subst this
      exact ⟨c, q1, q2, q3⟩
    · simp only [List.mem_map, List.mem_range] at hv
      obtain ⟨i, hi, rfl⟩ := hv
      exact (hf i hi).1
theorem open_row {α : Type} [Inhabited α] (d : Kd α) (ok : α → Prop) {t e : TypeId} {a : Option Addr} {len cap : Nat} {D : DataW H} {ps : List MemPlace} (hu : P.underlying t = some (.slice e)) (hc : P.cellsOf e = d.sz)
    (hel : ∀ n cs y, cs.length = d.sz → DataW.trod enc P W base spare held n e cs = some y → ∃ v : α, d.K W v cs ∧ ok v)
    (h : DataW.Trod enc P W base spare held t (.slice a len cap) D ps) : ∃ l : List α, l.length = len ∧ len ≤ cap ∧ d.C W a len l ∧ ∀ v ∈ l, ok v := by
  obtain ⟨fuel, hf⟩ := h
  exact open_row_fuel d ok hu hc hel (by simpa [Value.cells] using hf)
/-- A nil slice has no room. -/
theorem nil_room {t e : TypeId} {a : Option Addr} {len cap : Nat} {D : DataW H} {ps : List MemPlace} (hu : P.underlying t = some (.slice e)) (h : DataW.Trod enc P W base spare held t (.slice a len cap) D ps) : a = none → cap = 0 := by
  obtain ⟨fuel, hf⟩ := h
  have hf' : DataW.trod enc P W base spare held fuel t [.slice a len cap] = some (D, ps) := by simpa [Value.cells] using hf
  rcases Deep.open_slice hu hf' with ⟨hcs, _⟩ | ⟨a', len', cap', m, n, D, Pl, hcs, _⟩
  · simp at hcs
    intro _; exact hcs.2.2
  · simp at hcs
    intro h; rw [hcs.1] at h; cases h
/-- A number, as an element. -/
theorem el_int {e : TypeId} {k : IntKind} (he : P.underlying e = some (.int k)) {n : Nat} {cs : List Value} {y : DataW H × List MemPlace} (h : DataW.trod enc P W base spare held n e cs = some y) : ∃ v : Int, (Kd.int k).K W v cs ∧ (Lit.int k v).wf = true := by
  obtain ⟨v, rfl, _, hw⟩ := DataW.trod_int he h
  exact ⟨v, rfl, hw⟩
/-- A slice of numbers, as an element. -/
theorem el_ints {t e : TypeId} {k : IntKind} (hu : P.underlying t = some (.slice e)) (he : P.underlying e = some (.int k)) (hc : P.cellsOf e = 1) {n : Nat} {cs : List Value} {y : DataW H × List MemPlace} (h : DataW.trod enc P W base spare held n t cs = some y) :
    ∃ v : List Int, (Kd.slice e (Kd.int k)).K W v cs ∧ ∀ x ∈ v, (Lit.int k x).wf = true := by
  have hcs : ∃ a l c, cs = [.slice a l c] := by
    rcases Deep.open_slice hu h with ⟨rfl, _⟩ | ⟨a', len', cap', _, _, _, _, rfl, _⟩
    · exact ⟨_, _, _, rfl⟩
    · exact ⟨_, _, _, rfl⟩
  obtain ⟨a, l, c, rfl⟩ := hcs
  obtain ⟨v, hl, hle, hC, hw⟩ := open_row_fuel (Kd.int k) (fun x => (Lit.int k x).wf = true) hu hc (fun n cs y _ hy => el_int he hy) h
  subst hl
  exact ⟨v, ⟨a, c, rfl, hle, hC⟩, hw⟩
end
end Go.Proofs.Ytfkfpeiocdjniaa.Open
