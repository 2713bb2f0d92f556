/- Memory that reads as a list: rows of numbers, rows of rows. Conditions: as each lemma says. -/
import Derived.Test.YtfkfpeiocdjniaaWMore
import Derived.Lib.SlBytesConst
namespace Go.Proofs.Ytfkfpeiocdjniaa.Mem
open Go Go.RowKit Go.Proofs.YtfkfpeiocdjniaaW.PrintWords Go.Proofs.YtfkfpeiocdjniaaW.PrintLast Go.Proofs.YtfkfpeiocdjniaaW.PrintMore

theorem cell_new (w : World) (cs : Array Value) (t : TypeId) (fz : Nat × Nat) (j : Nat) : (w.alloc (.cells cs t fz)).cell? ⟨w.heap.size, j, none⟩ = cs[j]? :=
  cell_of_row _ _ j cs t fz (heap_alloc_new w _)
theorem C_cells_int {k : IntKind} {W : World} {ad : Addr} {xs : List Int} (hm : xs.length ≤ 9223372036854775807)
    (h : ∀ j x, xs[j]? = some x → W.cell? (ad.add j) = some (.int k x)) : (Kd.int k).C W (some ad) xs.length xs := by
  refine ⟨rfl, hm, fun _ => ⟨ad, rfl, fun j p hp => ⟨[.int k p], rfl, rfl, fun i u hu => ?_⟩⟩⟩
  obtain rfl : i = 0 := by
    have := (List.getElem?_eq_some_iff.1 hu).1; simp at this; exact this
  simp at hu; subst hu
  have e : j * (Kd.int k).sz + 0 = j := by show j * 1 + 0 = j; omega
  rw [e]; exact h j p hp
theorem C_cells_rows {α : Type} {d : Kd α} {e : Nat} {W : World} {ad : Addr} {ls : List (List α)} (hm : ls.length ≤ 9223372036854775807)
    (h : ∀ j xs, ls[j]? = some xs → ∃ A c, W.cell? (ad.add j) = some (.slice A xs.length c) ∧ xs.length ≤ c ∧ d.C W A xs.length xs) : (Kd.slice e d).C W (some ad) ls.length ls := by
  refine ⟨rfl, hm, fun _ => ⟨ad, rfl, fun j p hp => ?_⟩⟩
  obtain ⟨A, c, h1, h2, h3⟩ := h j p hp
  refine ⟨[.slice A p.length c], rfl, ⟨A, c, rfl, h2, h3⟩, fun i u hu => ?_⟩
  obtain rfl : i = 0 := by
    have := (List.getElem?_eq_some_iff.1 hu).1; simp at this; exact this
  simp at hu; subst hu
  have e : j * (Kd.slice e d).sz + 0 = j := by show j * 1 + 0 = j; omega
  rw [e]; exact h1
theorem C_row1 {α : Type} {d : Kd α} {e : Nat} {W : World} {ad : Addr} {xs : List α} {A : Option Addr} {c : Nat}
    (h1 : W.cell? ad = some (.slice A xs.length c)) (h2 : xs.length ≤ c) (h3 : d.C W A xs.length xs) : (Kd.slice e d).C W (some ad) 1 [xs] :=
  C_cells_rows (ls := [xs]) (by simp) (fun j p hp => by
    obtain rfl : j = 0 := by
      have := (List.getElem?_eq_some_iff.1 hp).1; simp at this; exact this
    simp at hp; subst hp
    exact ⟨A, c, by rw [show ad.add 0 = ad from by simp [Addr.add]]; exact h1, h2, h3⟩)
end Go.Proofs.Ytfkfpeiocdjniaa.Mem
