/- EntryJoins: the walk and what the functions are, joined; an argument's entries. Conditions: as each lemma says. -/
import Derived.Test.YtfkfpeiocdjniaaEjW
import Derived.Test.YtfkfpeiocdjniaaEnB
import Derived.Test.YtfkfpeiocdjniaaOpen
import Derived.ChangeSame
namespace Go.Proofs.Ytfkfpeiocdjniaa.Ec
open Go.RowKit Go.Proofs.Ytfkfpeiocdjniaa.PAll Go.Proofs.YtfkfpeiocdjniaaW.PrintWords Go.Proofs.YtfkfpeiocdjniaaW.PrintLast Go.Proofs.YtfkfpeiocdjniaaW.PrintMore Go.Proofs.Ytfkfpeiocdjniaa.Math Go.Proofs.Ytfkfpeiocdjniaa
set_option linter.unusedVariables false
set_option linter.unusedSimpArgs false
theorem few2_ev (l : List S33) (hl : l.length ≤ 9223372036854775807) : ∀ d i : Nat, i + d = l.length → Ev (fun k => cantlelaw08_few.l0 k l l (l.length : Int) (i : Int)) (((l.drop i).all fun x => decide (x.f0.size ≤ 100)) && decide (l.length ≤ 40))
  | 0, i, h => by
    rw [List.drop_of_length_le (by omega)]
    refine Ev.step (f := fun _ => some _) (fun k => ?_) (Ev.now _)
    simp only [cantlelaw08_few.l0]
    rw [if_neg (by omega), List.all_nil, Bool.true_and]
    congr 1
    exact decide_eq_decide.2 ⟨fun h => by omega, fun h => by omega⟩
  | d + 1, i, h => by
    have hi : i < l.length := by omega
    have ih := few2_ev l hl d (i + 1) (by omega)
    rw [List.drop_eq_getElem_cons hi, List.all_cons]
    by_cases hs : (l[i]).f0.size ≤ 100
    · rw [decide_eq_true hs, Bool.true_and]
      refine Ev.step (fun k => ?_) ih
      simp only [cantlelaw08_few.l0]
      rw [if_pos (by omega), if_pos (by omega), if_pos (by omega), rd33 l i hi, if_neg (by omega), w64 (n := (i : Int) + 1) (by omega) (by omega)]
      rfl
    · rw [decide_eq_false hs, Bool.false_and, Bool.false_and]
      refine Ev.step (f := fun _ => some _) (fun k => ?_) (Ev.now _)
      simp only [cantlelaw08_few.l0]
      rw [if_pos (by omega), if_pos (by omega), if_pos (by omega), rd33 l i hi, if_pos (by omega)]
theorem few2_f (l : List S33) (hl : l.length ≤ 9223372036854775807) : Ev (fun k => cantlelaw08_few.f k l) (fewB l) := by
  have := few2_ev l hl l.length 0 (by omega)
  rw [List.drop_zero] at this
  exact this
def mayF (x : S33) : Bool := mayB x.f0 x.f1
def bytF (x : S33) : ByteArray := strOfNums (encL x.f0 x.f1)
theorem wantF_yes (m0 : Bool) : ∀ (l : List S33) (out : List Int), mayAll l = true → wantF mayF bytF m0 (strOfNums out) l = (strOfNums (out ++ flat l), m0)
  | [], out, _ => by simp [wantF, flat]
  | x :: l, out, h => by
    unfold mayAll at h
    rw [List.all_cons, Bool.and_eq_true] at h
    simp only [wantF]
    rw [if_pos (show mayF x = true from h.1), show bytF x = strOfNums (encL x.f0 x.f1) from rfl, ← str_append, wantF_yes m0 l _ h.2, flat_cons, List.append_assoc]
theorem wantF_no (m0 : Bool) : ∀ (l : List S33) (t : ByteArray), mayAll l = false → (wantF mayF bytF m0 t l).2 = false
  | [], t, h => by cases h
  | x :: l, t, h => by
    unfold mayAll at h
    rw [List.all_cons] at h
    simp only [wantF]
    cases hm : mayB x.f0 x.f1
    · rw [if_neg (show ¬ mayF x = true by unfold mayF; rw [hm]; simp)]
    · rw [if_pos (show mayF x = true from hm)]
      rw [hm, Bool.true_and] at h
      exact wantF_no m0 l _ h
theorem joinR_no (l : List S33) (h : dupFrom [] (nms l) = true ∨ mayAll l = false) : joinR encR l = ([], 1) := by
  unfold joinR
  by_cases hd : dupFrom [] (nms l) = true
  · rw [if_pos hd]
  · rw [if_neg hd]
    rcases h with h | h
    · exact absurd h hd
    · exact joinF_none l [] h
theorem joins_all (w0 : World) (A : Option Addr) (c : Nat) (l : List S33) (hC : Kd.C k33 w0 A l.length l) (hc : l.length ≤ c) :
    Calls Try.prog 4 #[.slice A l.length c] w0 fun e w' => e = .returned (.bool true) ∧ Below w0.heap.size w0 w' := by
  obtain ⟨k1, q1⟩ := lives_f
  obtain ⟨k2, q2⟩ := few2_f l hC.2.1
  cases hf : fewB l
  · rw [hf] at q2
    exact ej_long (k1 + k2) (q1 _ (by omega)) w0 A c l hC hc (q2 _ (by omega))
  · rw [hf] at q2
    unfold fewB at hf
    rw [Bool.and_eq_true] at hf
    have hlen : l.length ≤ 40 := of_decide_eq_true hf.2
    have hsz : ∀ x ∈ l, x.f0.size ≤ 1000 := fun x hx => by
      have := of_decide_eq_true (List.all_eq_true.1 hf.1 x hx)
      omega
    obtain ⟨k3, q3⟩ := rTwice_f (l.map toRef) (by rw [List.length_map]; omega)
    rw [nm32_refs] at q3
    obtain ⟨k4, q4⟩ := evAll (g := fun (x : S33) k => cantleref08_May.f k x.f0 x.f1) (r := mayF) l (fun x _ => rMay_f x.f0 x.f1)
    obtain ⟨k5, q5⟩ := evAll (g := fun (x : S33) k => cantleref08_Encode.f k x.f0 x.f1) (r := bytF) (l.filter mayF) (fun x hx => rEncode_f x.f0 x.f1 (List.mem_filter.1 hx).2)
    obtain ⟨k6, q6⟩ := evAll (g := fun (x : S33) k => entry_Encode.f k x.f0 x.f1) (r := encR) l (fun x _ => Encode_f x.f0 x.f1)
    obtain ⟨k7, q7⟩ := evAll (g := fun j k => entry_Decode.f k (chunkL (flat l) j)) (r := fun j => dch (flat l) j) (List.range l.length) (fun j _ => Decode_f (chunkL (flat l) j) (chunk_oct (flat_oct l) j))
    refine ej_short (k1 + k2 + k3 + k4 + k5 + k6 + k7) (q1 _ (by omega)) w0 A c l hC hc (q2 _ (by omega)) (by omega) (dupFrom [] (nms l)) (q3 _ (by omega)) mayF bytF (q4 _ (by omega))
      (fun x hx hm => ⟨q5 _ (by omega) x (List.mem_filter.2 ⟨hx, hm⟩), by unfold bytF; rw [str_size, enc_length]⟩) (joinR encR l).1 (joinR encR l).2
      (wantF mayF bytF (!(dupFrom [] (nms l))) (strOfNums []) l).2 (wantF mayF bytF (!(dupFrom [] (nms l))) (strOfNums []) l).1 rfl
      (fun W A' c' hC' hc' => join_calls (k1 + k2 + k3 + k4 + k5 + k6 + k7) encR A' c' l W hC' hc' hsz (by omega) (q6 _ (by omega)) (fun x _ => encR_len x)) ?_ ?_
    · intro h
      have hn : dupFrom [] (nms l) = true ∨ mayAll l = false := by
        cases hm : mayAll l
        · exact .inr rfl
        · rw [wantF_yes _ l [] hm] at h
          left
          simpa using h
      rw [joinR_no l hn]
      exact ⟨rfl, rfl⟩
    · intro h
      have hm : mayAll l = true := by
        cases hm : mayAll l
        · rw [wantF_no _ l _ hm] at h; cases h
        · rfl
      rw [wantF_yes _ l [] hm] at h ⊢
      have hd : dupFrom [] (nms l) = false := by simpa using h
      have hj : joinR encR l = (flat l, 0) := by
        unfold joinR
        rw [hd, if_neg (by simp), joinF_flat l [] hm, List.nil_append]
      rw [hj]
      refine ⟨rfl, by rw [List.nil_append], fun W A' c' hC' hc' => ?_⟩
      have := all_even (k1 + k2 + k3 + k4 + k5 + k6 + k7) A' c' (flat l) l.length (flat_length l) (by omega) W hC' hc' (dch (flat l)) (fun j hj => q7 _ (by omega) j (List.mem_range.2 hj)) (fun j _ => dch_two _ j) (fun j _ => dch_size _ j)
      rw [all_flat l hm hd] at this
      exact this
def EntOk (x : S33) : Prop := (Lit.int .i64 x.f1).wf = true
theorem el_entry {H : Type} {enc : TypeId × Value → H} {W : World} {base : Nat} {spare : Nat → Bool} {held : Bool} {n : Nat} {cs : List Value} {y : DataW H × List MemPlace} (hl : cs.length = 2)
    (h : DataW.trod enc Try.prog W base spare held n 33 cs = some y) : ∃ v : S33, k33.K W v cs ∧ EntOk v := by
  obtain ⟨xs, m, rfl, _, _, hxl, hf⟩ := DataW.trod_struct Try.underlying33 h
  match cs, hl with
  | [c0, c1], _ =>
    match xs, hxl with
    | [x0, x1], _ =>
      have g0 := hf 0 _ rfl
      have g1 := hf 1 _ rfl
      obtain ⟨v0, e0, _, w0⟩ := DataW.trod_string Try.underlying9 g0
      obtain ⟨v1, e1, _, w1⟩ := DataW.trod_int Try.underlying3 g1
      have t0 : Try.prog.cellsOf 9 = 1 := by kernel_rfl
      have t1 : Try.prog.cellsOf 3 = 1 := by kernel_rfl
      simp [t0, t1] at e0 e1
      subst e0 e1
      exact ⟨⟨v0, v1⟩, k33_mk W ⟨v0, v1⟩, w1⟩
instance : Inhabited S33 := ⟨⟨⟨#[]⟩, 0⟩⟩
theorem open_entries {H : Type} {enc : TypeId × Value → H} {W : World} {base : Nat} {spare : Nat → Bool} {held : Bool} {a : Option Addr} {len cap : Nat} {D : DataW H} {ps : List MemPlace} (h : DataW.Trod enc Try.prog W base spare held 24 (.slice a len cap) D ps) :
    ∃ l : List S33, l.length = len ∧ len ≤ cap ∧ Kd.C k33 W a len l ∧ ∀ v ∈ l, EntOk v :=
  Open.open_row k33 EntOk Try.underlying24 (by kernel_rfl) (fun n cs y hcs hy => el_entry hcs hy) h
end Go.Proofs.Ytfkfpeiocdjniaa.Ec
