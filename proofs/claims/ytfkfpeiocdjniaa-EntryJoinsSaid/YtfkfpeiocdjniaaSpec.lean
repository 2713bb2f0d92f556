/- Regions that draw their order, told operation by operation: whatever order is drawn, each operation does what its own sentence says. Conditions: as each lemma says. -/
import Derived.Orders
import Derived.Laws.World
namespace Go.Proofs.Ytfkfpeiocdjniaa.Spec
open Go
section
variable {P : Program} {ops : Array Oper}

/-- What an operand is, where the operations of the mask have left their values. -/
def look (ops : Array Oper) (a0 : Act) (m : Nat) (v : Nat → Value) : Operand → Value
  | .tmp t => match (List.range ops.size).find? (fun i => m.testBit i && ((ops[i]?).bind (·.dst) == some t)) with
    | some i => v i
    | none => a0.eval (.tmp t)
  | x => a0.eval x

/-- The result of one operation's run. -/
def Upon (P : Program) (K : Value → World → Prop) : Result Next → Prop
  | .ok (.value u) w => K u w
  | .ok .skip w => K undef w
  | .ok (.enter f args) w => Calls P f args w fun e w' => ∃ u, e = .returned u ∧ K u w'
  | _ => False

/-- An operation's guard. -/
def met (o : Oper) (v : Nat → Value) : Prop :=
  match o.guard with
  | none => True
  | some (g, want) => v g = .bool want

def check (ops : Array Oper) (F : Nat → Nat) (sz : Nat) : Bool :=
  (List.range ops.size).all fun j => match ops[j]? with
  | none => true
  | some o =>
    decide (F j < 2 ^ ops.size) && o.after.all (fun e => !Region.binds .any e || decide (e.on < j)) &&
    (List.range ops.size).all (fun i => !(F j).testBit i || o.after.any (fun e => Region.binds .any e && (e.on == i || (F e.on).testBit i))) &&
    (List.range ops.size).all (fun i => i == j || match ops[i]? with
      | none => true
      | some oi => match oi.dst with
        | none => true
        | some d => o.dst != some d && ((F j).testBit i || (F i).testBit j || !(o.looksAt ops).contains d)) &&
    (match o.guard with
      | none => true
      | some (g, _) => (F j).testBit g && decide (g < ops.size) && ((ops[g]?).bind (·.dst)).isSome) &&
    (match o.dst with
      | none => true
      | some d => decide (d < sz) && !(match o.guard with | none => false | some (g, _) => (ops[g]?).bind (·.dst) == some d))

/-- One operation's sentence. -/
def Tells (P : Program) (ops : Array Oper) (F : Nat → Nat) (a0 : Act) (C : (Nat → Bool) → World → Prop) (S : Nat → Value → World → Prop) (Kp : World → World → Prop) (j : Nat) (o : Oper) : Prop :=
  ∀ (L : Nat → Bool) (v : Nat → Value) (w : World), C L w → L j = false → (∀ i, (F j).testBit i = true → L i = true ∧ S i (v i) w) → (∀ i, i < ops.size → (F i).testBit j = true → L i = false) →
    (met o v → ∀ ρ : Operand → Value, (∀ x ∈ o.op.operands, ρ x = look ops a0 (F j) v x) →
      Upon P (fun u w' => C (fun i => if i = j then true else L i) w' ∧ Kp w w' ∧ S j u w') ((execOp ρ o).run P w)) ∧
    (¬ met o v → C (fun i => if i = j then true else L i) w ∧ S j undef w)

/-- The frame behind all operations. -/
def putAll (v : Nat → Value) : Nat → List Oper → Act → Act
  | _, [], a => a
  | k, o :: l, a => putAll v (k + 1) l (a.put o.dst (v k))

/-- The frame where some have come up. -/
structure At (ops : Array Oper) (a0 : Act) (L : Nat → Bool) (v : Nat → Value) (a : Act) : Prop where
  defers : a.defers = a0.defers
  size : a.tmps.size = a0.tmps.size
  got : ∀ i o d, ops[i]? = some o → o.dst = some d → L i = true → a.tmps[d]? = some (v i)
  kept : ∀ t, (∀ i o, ops[i]? = some o → L i = true → o.dst ≠ some t) → a.tmps[t]? = a0.tmps[t]?

theorem check_at {F : Nat → Nat} {sz : Nat} (h : check ops F sz = true) {j : Nat} {o : Oper} (ho : ops[j]? = some o) :
    (∀ e ∈ o.after, Region.binds .any e = true → e.on < j) ∧
    (∀ i, i < ops.size → (F j).testBit i = true → ∃ e ∈ o.after, Region.binds .any e = true ∧ (e.on = i ∨ (F e.on).testBit i = true)) ∧
    (∀ i oi d, ops[i]? = some oi → i ≠ j → oi.dst = some d → o.dst ≠ some d ∧ ((F j).testBit i = true ∨ (F i).testBit j = true ∨ d ∉ o.looksAt ops)) ∧
    (∀ g want, o.guard = some (g, want) → (F j).testBit g = true ∧ g < ops.size ∧ ∃ og d, ops[g]? = some og ∧ og.dst = some d ∧ o.dst ≠ some d) ∧
    (∀ d, o.dst = some d → d < sz) ∧ (∀ i, (F j).testBit i = true → i < ops.size) := by
  have hlt : j < ops.size := (Array.getElem?_eq_some_iff.1 ho).1
  have h1 := List.all_eq_true.1 h j (List.mem_range.2 hlt)
  simp only [ho, Bool.and_eq_true] at h1
  obtain ⟨⟨⟨⟨⟨hZ, hA⟩, hB⟩, hC⟩, hD⟩, hE⟩ := h1
  refine ⟨fun e he hb => ?_, fun i hi ht => ?_, fun i oi d hi hne hd => ?_, fun g want hg => ?_, fun d hd => ?_, fun i ht => ?_⟩
  · have := Array.all_eq_true_iff_forall_mem.1 hA e he
    simpa [hb] using this
  · have := List.all_eq_true.1 hB i (List.mem_range.2 hi)
    simp only [ht, Bool.not_true, Bool.false_or] at this
    obtain ⟨e, he, hb⟩ := Array.any_eq_true'.1 this
    simp only [Bool.and_eq_true, Bool.or_eq_true, beq_iff_eq] at hb
    exact ⟨e, he, hb.1, hb.2⟩
  · have hilt : i < ops.size := (Array.getElem?_eq_some_iff.1 hi).1
    have := List.all_eq_true.1 hC i (List.mem_range.2 hilt)
    simp [hi, hd, hne] at this
    refine ⟨this.1, ?_⟩
    rcases this.2 with (h | h) | h
    · exact .inl h
    · exact .inr (.inl h)
    · exact .inr (.inr h)
  · simp only [hg, Bool.and_eq_true, decide_eq_true_eq] at hD
    obtain ⟨⟨h1, h2⟩, h3⟩ := hD
    cases hog : ops[g]? with
    | none => simp [hog] at h3
    | some og =>
      cases hd : og.dst with
      | none => simp [hog, hd] at h3
      | some d =>
        refine ⟨h1, h2, og, d, rfl, hd, fun hod => ?_⟩
        simp [hod, hg, hog, hd] at hE
  · simp only [hd, Bool.and_eq_true, decide_eq_true_eq] at hE
    exact hE.1
  · rcases Nat.lt_or_ge i ops.size with h | h
    · exact h
    · have h2 : F j < 2 ^ i := Nat.lt_of_lt_of_le (of_decide_eq_true hZ) (Nat.pow_le_pow_right (by omega) h)
      rw [Nat.testBit_lt_two_pow h2] at ht
      cases ht

theorem At.put {a0 : Act} {L : Nat → Bool} {v : Nat → Value} {a : Act} {F : Nat → Nat} (h : At ops a0 L v a) (hc : check ops F a0.tmps.size = true) {j : Nat} {o : Oper} (ho : ops[j]? = some o) (hj : L j = false) (u : Value) :
    At ops a0 (fun i => if i = j then true else L i) (fun i => if i = j then u else v i) (a.put o.dst u) := by
  obtain ⟨_, _, hdis, _, hsz, _⟩ := check_at hc ho
  cases hd : o.dst with
  | none =>
    refine ⟨h.defers, h.size, fun i oi d hi hod hL => ?_, fun t ht => ?_⟩
    · by_cases hij : i = j
      · subst hij; rw [ho] at hi; cases hi; rw [hd] at hod; cases hod
      · simp only [hij, if_false] at hL ⊢; exact h.got i oi d hi hod hL
    · refine h.kept t fun i oi hi hL => ht i oi hi ?_
      by_cases hij : i = j
      · simp [hij]
      · simp [hij, hL]
  | some d0 =>
    have hd0 : d0 < a.tmps.size := by rw [h.size]; exact hsz d0 hd
    refine ⟨h.defers, by simp [Act.put, h.size], fun i oi d hi hod hL => ?_, fun t ht => ?_⟩
    · by_cases hij : i = j
      · subst hij; rw [ho] at hi; cases hi; rw [hd] at hod; cases hod
        simp [Act.put, hd0]
      · simp only [hij, if_false] at hL ⊢
        have hne : d0 ≠ d := fun e => (hdis i oi d hi hij hod).1 (by rw [hd, e])
        simp only [Act.put]
        rw [Array.getElem?_setIfInBounds_ne hne]
        exact h.got i oi d hi hod hL
    · have hne : d0 ≠ t := fun e => ht j o ho (by simp) (by rw [hd, e])
      simp only [Act.put]
      rw [Array.getElem?_setIfInBounds_ne hne]
      refine h.kept t fun i oi hi hL => ht i oi hi ?_
      by_cases hij : i = j
      · simp [hij]
      · simp [hij, hL]

theorem At.start (a0 : Act) (v : Nat → Value) : At ops a0 (fun _ => false) v a0 := ⟨rfl, rfl, fun i o d hi hd hL => by simp at hL, fun t _ => rfl⟩

theorem At.eq {a0 : Act} {L : Nat → Bool} {v : Nat → Value} {a b : Act} (h : At ops a0 L v a) (h' : At ops a0 L v b) : a = b := by
  obtain ⟨ta, da⟩ := a
  obtain ⟨tb, db⟩ := b
  have hd : da = db := h.defers.trans h'.defers.symm
  subst hd
  have ht : ta = tb := by
    refine Array.ext_getElem? fun t => ?_
    by_cases hex : ∃ i o, ops[i]? = some o ∧ L i = true ∧ o.dst = some t
    · obtain ⟨i, o, hi, hL, hd⟩ := hex
      rw [show ta[t]? = _ from h.got i o t hi hd hL, show tb[t]? = _ from h'.got i o t hi hd hL]
    · have hno : ∀ i o, ops[i]? = some o → L i = true → o.dst ≠ some t := fun i o hi hL hd => hex ⟨i, o, hi, hL, hd⟩
      rw [show ta[t]? = _ from h.kept t hno, show tb[t]? = _ from h'.kept t hno]
  rw [ht]

theorem At.congr {a0 : Act} {L L' : Nat → Bool} {v v' : Nat → Value} {a : Act} (h : At ops a0 L v a) (hL : ∀ i, i < ops.size → L i = L' i) (hv : ∀ i, i < ops.size → v i = v' i) : At ops a0 L' v' a :=
  ⟨h.defers, h.size, fun i o d hi hd hl => by
    have hlt : i < ops.size := (Array.getElem?_eq_some_iff.1 hi).1
    rw [← hv i hlt]; exact h.got i o d hi hd (by rw [hL i hlt]; exact hl),
   fun t ht => h.kept t fun i o hi hl => ht i o hi (by
    have hlt : i < ops.size := (Array.getElem?_eq_some_iff.1 hi).1
    rw [← hL i hlt]; exact hl)⟩

theorem putAll_at {a0 : Act} {F : Nat → Nat} (hc : check ops F a0.tmps.size = true) (v : Nat → Value) : ∀ (l : List Oper) (k : Nat) (a : Act), (∀ i, l[i]? = ops[k + i]?) → At ops a0 (fun i => decide (i < k)) v a →
    At ops a0 (fun i => decide (i < k + l.length)) v (putAll v k l a)
  | [], k, a, _, h => by simpa [putAll] using h
  | o :: l, k, a, hl, h => by
    have h0 : ops[k]? = some o := by simpa using (hl 0).symm
    have hp := h.put hc h0 (by simp) (v k)
    have hq : At ops a0 (fun i => decide (i < k + 1)) v (a.put o.dst (v k)) := hp.congr (fun i _ => by
      by_cases hik : i = k
      · subst hik; simp
      · have : (i < k) ↔ (i < k + 1) := by omega
        simp [hik, this]) (fun i _ => by
      by_cases hik : i = k
      · simp [hik]
      · simp [hik])
    have := putAll_at hc v l (k + 1) _ (fun i => by have := hl (i + 1); simpa [Nat.add_assoc, Nat.add_comm 1 i] using this) hq
    simp only [putAll, List.length_cons]
    exact this.congr (fun i _ => by
      have : (i < k + 1 + l.length) ↔ (i < k + (l.length + 1)) := by omega
      simp [this]) (fun _ _ => rfl)

/-- What is forced ahead of j is listed, if the list is closed. -/
theorem forced {F : Nat → Nat} {sz : Nat} (hc : check ops F sz = true) {L : Nat → Bool} (hcl : ∀ k o, ops[k]? = some o → L k = true → ∀ e ∈ o.after, Region.binds .any e = true → L e.on = true) :
    ∀ (n j : Nat) (o : Oper), j < n → ops[j]? = some o → (∀ e ∈ o.after, Region.binds .any e = true → L e.on = true) → ∀ i, i < ops.size → (F j).testBit i = true → L i = true
  | 0, _, _, h, _, _, _, _, _ => absurd h (Nat.not_lt_zero _)
  | n + 1, j, o, hj, ho, hall, i, hi, ht => by
    obtain ⟨hback, hF, _⟩ := check_at hc ho
    obtain ⟨e, he, hb, h | h⟩ := hF i hi ht
    · rw [← h]; exact hall e he hb
    · have hlt := hback e he hb
      have hL := hall e he hb
      have hjs : j < ops.size := (Array.getElem?_eq_some_iff.1 ho).1
      obtain ⟨oe, hoe⟩ : ∃ oe, ops[e.on]? = some oe := ⟨_, Array.getElem?_eq_getElem (Nat.lt_trans hlt hjs)⟩
      exact forced hc hcl n e.on oe (by omega) hoe (hcl e.on oe hoe hL) i hi h

theorem look_eval {a0 : Act} {L : Nat → Bool} {v : Nat → Value} {a : Act} {F : Nat → Nat} (h : At ops a0 L v a) (hc : check ops F a0.tmps.size = true) {j : Nat} {o : Oper} (ho : ops[j]? = some o) (hj : L j = false)
    (hF : ∀ i, i < ops.size → (F j).testBit i = true → L i = true) (hB : ∀ i, i < ops.size → (F i).testBit j = true → L i = false) :
    ∀ x ∈ o.op.operands, a.eval x = look ops a0 (F j) v x := by
  intro x hx
  obtain ⟨_, _, hdis, _, _, _⟩ := check_at hc ho
  cases x with
  | tmp t =>
    have hlook : t ∈ o.looksAt ops := List.mem_append_left _ (List.mem_filterMap.2 ⟨.tmp t, by simpa using hx, rfl⟩)
    simp only [look]
    cases hf : (List.range ops.size).find? (fun i => (F j).testBit i && ((ops[i]?).bind (·.dst) == some t)) with
    | some i =>
      have h1 := List.find?_some hf
      have h2 := List.mem_range.1 (List.mem_of_find?_eq_some hf)
      simp only [Bool.and_eq_true, beq_iff_eq] at h1
      obtain ⟨oi, hoi⟩ : ∃ oi, ops[i]? = some oi := ⟨_, Array.getElem?_eq_getElem h2⟩
      have hd : oi.dst = some t := by simpa [hoi] using h1.2
      have := h.got i oi t hoi hd (hF i h2 h1.1)
      simp only [Act.eval, Array.getD_eq_getD_getElem?, this, Option.getD_some]
    | none =>
      have hno : ∀ i oi, ops[i]? = some oi → L i = true → oi.dst ≠ some t := fun i oi hi hL hd => by
        have hlt : i < ops.size := (Array.getElem?_eq_some_iff.1 hi).1
        have hne : i ≠ j := fun e => by rw [e, hj] at hL; cases hL
        rcases (hdis i oi t hi hne hd).2 with h1 | h1 | h1
        · have := List.find?_eq_none.1 hf i (List.mem_range.2 hlt)
          simp [h1, hi, hd] at this
        · rw [hB i hlt h1] at hL; cases hL
        · exact h1 hlook
      have := h.kept t hno
      simp only [Act.eval, Array.getD_eq_getD_getElem?, this]
  | _ => rfl

theorem wanted_met {a0 : Act} {L : Nat → Bool} {v : Nat → Value} {a : Act} {F : Nat → Nat} (h : At ops a0 L v a) (hc : check ops F a0.tmps.size = true) {j : Nat} {o : Oper} (ho : ops[j]? = some o)
    (hF : ∀ i, i < ops.size → (F j).testBit i = true → L i = true) : Region.wanted o (yielded ops a.tmps) = true ↔ met o v := by
  obtain ⟨_, _, _, hg, _, _⟩ := check_at hc ho
  unfold Region.wanted met
  cases hgd : o.guard with
  | none => simp
  | some gw =>
    obtain ⟨g, want⟩ := gw
    obtain ⟨h1, h2, og, d, hog, hd, _⟩ := hg g want hgd
    have := h.got g og d hog hd (hF g h2 h1)
    simp only [yielded, hog, Option.bind_some, hd, this]
    cases hv : v g with
    | bool b => simp
    | _ => simp

theorem wp_of_upon {o : Oper} {a : Act} {w : World} {K : Value → World → Prop} {K' : Act → World → Prop} {Q : Exit → Act → World → Prop} (h : Upon P K ((execOp a.eval o).run P w)) (hk : ∀ u w', K u w' → K' (a.put o.dst u) w') : o.wp P a w K' Q := by
  unfold Oper.wp
  generalize (execOp a.eval o).run P w = r at *
  cases r with
  | ok n w' =>
    cases n <;> simp only [Upon] at h <;> simp only [Oper.upon]
    case value u => exact hk _ _ h
    case skip => exact hk _ _ h
    case enter f args => exact h.mono fun e w'' ⟨u, he, hK⟩ => by subst he; exact hk _ _ hK
  | halt x w' => simp only [Upon] at h

theorem any_of_tells {F : Nat → Nat} {a0 : Act} {C : (Nat → Bool) → World → Prop} {S : Nat → Value → World → Prop} {Kp : World → World → Prop} {Q : Exit → Act → World → Prop} (hc : check ops F a0.tmps.size = true)
    (hK : ∀ i x w w', Kp w w' → S i x w → S i x w') (hT : ∀ j o, ops[j]? = some o → Tells P ops F a0 C S Kp j o)
    (hcong : ∀ L L' w, (∀ i, i < ops.size → L i = L' i) → C L w → C L' w)
    (hend : ∀ v w, C (fun _ => true) w → (∀ i, i < ops.size → S i (v i) w) → Q .normal (putAll v 0 ops.toList a0) w) :
    ∀ (fuel : Nat) (listed : Array Bool) (v : Nat → Value) (a : Act) (w : World), listed.size = ops.size → ((List.range ops.size).countP (fun i => !listed.getD i true)) ≤ fuel →
      At ops a0 (fun i => listed.getD i false) v a → (∀ k o, ops[k]? = some o → listed.getD k false = true → ∀ e ∈ o.after, Region.binds .any e = true → listed.getD e.on false = true) →
      C (fun i => listed.getD i false) w → (∀ i, i < ops.size → listed.getD i false = true → S i (v i) w) → wpAny P .any ops Q fuel listed a w := by
  -- all have come up
  have done : ∀ (listed : Array Bool) (v : Nat → Value) (a : Act) (w : World), listed.size = ops.size → Region.ready .any ops listed = [] →
      At ops a0 (fun i => listed.getD i false) v a → C (fun i => listed.getD i false) w → (∀ i, i < ops.size → listed.getD i false = true → S i (v i) w) → Q .normal a w := by
    intro listed v a w hsz hr hA hC hS
    have all : ∀ n j, j < n → j < ops.size → listed.getD j false = true := by
      intro n
      induction n with
      | zero => intro j h; omega
      | succ n ih =>
        intro j hj hjs
        cases hl : listed.getD j false with
        | true => rfl
        | false =>
          exfalso
          obtain ⟨o, ho⟩ : ∃ o, ops[j]? = some o := ⟨_, Array.getElem?_eq_getElem hjs⟩
          obtain ⟨hback, _⟩ := check_at hc ho
          have hmem : j ∈ Region.ready .any ops listed := mem_ready.2 ⟨by
            have hjl : j < listed.size := by omega
            simpa [hjl] using hl, o, ho, fun e he hb => ih e.on (by have := hback e he hb; omega) (by have := hback e he hb; omega)⟩
          rw [hr] at hmem
          cases hmem
    have h1 : At ops a0 (fun i => decide (i < 0 + ops.toList.length)) v a := hA.congr (fun i hi => by rw [all (i + 1) i (by omega) hi]; simpa using hi) (fun _ _ => rfl)
    have h2 := putAll_at hc v ops.toList 0 a0 (by simp) ((At.start a0 v).congr (fun i _ => by simp) (fun _ _ => rfl))
    rw [h1.eq h2]
    exact hend v w (hcong _ _ _ (fun i hi => all (i + 1) i (by omega) hi) hC) (fun i hi => hS i hi (all (i + 1) i (by omega) hi))
  intro fuel
  induction fuel with
  | zero =>
    intro listed v a w hsz hcnt hA hcl hC hS
    have hr : Region.ready .any ops listed = [] := by
      cases hre : Region.ready .any ops listed with
      | nil => rfl
      | cons x xs =>
        have hx : x ∈ Region.ready .any ops listed := by rw [hre]; simp
        obtain ⟨h0, o, ho, _⟩ := mem_ready.1 hx
        have hlt : x < ops.size := (Array.getElem?_eq_some_iff.1 ho).1
        have : 0 < (List.range ops.size).countP (fun i => !listed.getD i true) := List.countP_pos_iff.2 ⟨x, List.mem_range.2 hlt, by rw [h0]; rfl⟩
        omega
    exact ⟨hr, done listed v a w hsz hr hA hC hS⟩
  | succ fuel ih =>
    intro listed v a w hsz hcnt hA hcl hC hS
    refine ⟨fun hr => done listed v a w hsz hr hA hC hS, fun j hj => ?_⟩
    obtain ⟨hj0, o, ho, hdeps⟩ := mem_ready.1 hj
    have hjs : j < ops.size := (Array.getElem?_eq_some_iff.1 ho).1
    obtain ⟨_, _, _, _, _, hin⟩ := check_at hc ho
    have hjl : j < listed.size := by omega
    have hjf : listed.getD j false = false := by simp [hjl] at hj0 ⊢; exact hj0
    have hF : ∀ i, i < ops.size → (F j).testBit i = true → listed.getD i false = true := forced hc hcl (j + 1) j o (by omega) ho hdeps
    have hB : ∀ i, i < ops.size → (F i).testBit j = true → listed.getD i false = false := by
      intro i hi ht
      cases hli : listed.getD i false with
      | false => rfl
      | true =>
        obtain ⟨oi, hoi⟩ : ∃ oi, ops[i]? = some oi := ⟨_, Array.getElem?_eq_getElem hi⟩
        have := forced hc hcl (i + 1) i oi (by omega) hoi (hcl i oi hoi hli) j hjs ht
        rw [hjf] at this
        cases this
    have hTj := hT j o ho (fun i => listed.getD i false) v w hC hjf (fun i ht => ⟨hF i (hin i ht) ht, hS i (hin i ht) (hF i (hin i ht) ht)⟩) hB
    have hset : ∀ i, i < ops.size → (listed.setIfInBounds j true).getD i false = (if i = j then true else listed.getD i false) := by
      intro i hi
      by_cases hij : i = j
      · subst hij; simp [hjl]
      · rw [getD_set_ne false (Ne.symm hij)]; simp [hij]
    have hcnt' : ((List.range ops.size).countP (fun i => !(listed.setIfInBounds j true).getD i true)) ≤ fuel := by
      have key : ∀ (l : List Nat), l.Nodup → (if j ∈ l then l.countP (fun i => !(listed.setIfInBounds j true).getD i true) + 1 = l.countP (fun i => !listed.getD i true)
          else l.countP (fun i => !(listed.setIfInBounds j true).getD i true) = l.countP (fun i => !listed.getD i true)) := by
        intro l
        induction l with
        | nil => simp
        | cons x xs ih2 =>
          intro hnd
          obtain ⟨hx, hnd'⟩ := List.nodup_cons.1 hnd
          have := ih2 hnd'
          by_cases hxj : x = j
          · subst hxj
            simp only [hx, if_false] at this
            simp only [List.mem_cons, true_or, if_true, List.countP_cons, this, hj0]
            have hjl' : x < listed.size := hjl
            simp [hjl']
          · rw [List.countP_cons, List.countP_cons, getD_set_ne true (Ne.symm hxj)]
            have hm : (j ∈ x :: xs) ↔ j ∈ xs := by simp [Ne.symm hxj]
            by_cases hjx : j ∈ xs
            · rw [if_pos hjx] at this; rw [if_pos (hm.2 hjx)]; omega
            · rw [if_neg hjx] at this; rw [if_neg (fun h => hjx (hm.1 h))]; omega
      have := key (List.range ops.size) List.nodup_range
      rw [if_pos (List.mem_range.2 hjs)] at this
      omega
    have hcl' : ∀ k ok, ops[k]? = some ok → (listed.setIfInBounds j true).getD k false = true → ∀ e ∈ ok.after, Region.binds .any e = true → (listed.setIfInBounds j true).getD e.on false = true := by
      intro k ok hk hl e he hb
      by_cases hkj : k = j
      · subst hkj; rw [ho] at hk; cases hk; exact getD_set_true (hdeps e he hb)
      · rw [getD_set_ne false (Ne.symm hkj)] at hl
        exact getD_set_true (hcl k ok hk hl e he hb)
    have next : ∀ (u : Value) (w' : World), C (fun i => if i = j then true else listed.getD i false) w' → (∀ i x, S i x w → S i x w') → S j u w' →
        wpAny P .any ops Q fuel (listed.setIfInBounds j true) (a.put o.dst u) w' := by
      intro u w' hC' hkeep hSu
      refine ih _ (fun i => if i = j then u else v i) _ w' (by simpa using hsz) hcnt' ?_ hcl' (hcong _ _ _ (fun i hi => (hset i hi).symm) hC') ?_
      · exact (hA.put hc ho hjf u).congr (fun i hi => (hset i hi).symm) (fun _ _ => rfl)
      · intro i hi hl
        rw [hset i hi] at hl
        by_cases hij : i = j
        · subst hij; simpa using hSu
        · simp only [hij, if_false] at hl ⊢
          exact hkeep i _ (hS i hi hl)
    unfold wpOp
    simp only [ho]
    by_cases hw : Region.wanted o (yielded ops a.tmps) = true
    · rw [if_pos hw]
      refine .inl ?_
      have hm := (wanted_met hA hc ho hF).1 hw
      have hle := look_eval hA hc ho hjf hF hB
      exact wp_of_upon (hTj.1 hm a.eval hle) (fun u w' ⟨h1, h2, h3⟩ => next u w' h1 (fun i x => hK i x w w' h2) h3)
    · rw [if_neg hw]
      have hm : ¬ met o v := fun h => hw ((wanted_met hA hc ho hF).2 h)
      obtain ⟨h1, h2⟩ := hTj.2 hm
      exact next undef w h1 (fun i x h => h) h2

/-- A region that draws its order: if each operation tells what its sentence says, so does the region. -/
theorem wp_tells {id : Nat} {F : Nat → Nat} {a0 : Act} {w0 : World} {C : (Nat → Bool) → World → Prop} {S : Nat → Value → World → Prop} {Kp : World → World → Prop} {Q : Exit → Act → World → Prop}
    (hm : P.follows .mixedOrders = true) (hc : check ops F a0.tmps.size = true)
    (hK : ∀ i x w w', Kp w w' → S i x w → S i x w') (hcong : ∀ L L' w, (∀ i, i < ops.size → L i = L' i) → C L w → C L' w)
    (h0 : C (fun _ => false) w0.drew) (hT : ∀ j o, ops[j]? = some o → Tells P ops F a0 C S Kp j o)
    (hend : ∀ v w, C (fun _ => true) w → (∀ i, i < ops.size → S i (v i) w) → Q .normal (putAll v 0 ops.toList a0) w) : (Code.region id ops true).wp P Q a0 w0 := by
  refine wp_region_any hm ?_
  refine any_of_tells hc hK hT hcong hend ops.size _ (fun _ => undef) a0 _ (by simp) ?_ ?_ ?_ ?_ ?_
  · have := List.countP_le_length (p := fun i => !(Array.replicate ops.size false).getD i true) (l := List.range ops.size)
    simpa using this
  · exact (At.start a0 _).congr (fun i hi => by simp [hi]) (fun _ _ => rfl)
  · intro k o hk hl
    have hlt : k < ops.size := (Array.getElem?_eq_some_iff.1 hk).1
    simp [hlt] at hl
  · exact hcong (fun _ => false) _ _ (fun i hi => by simp [hi]) h0
  · intro i hi hl
    simp [hi] at hl

/-- A sentence for each operation, one behind the other. -/
def AllTell (T : Nat → Oper → Prop) : Nat → List Oper → Prop
  | _, [] => True
  | k, o :: l => T k o ∧ AllTell T (k + 1) l

theorem AllTell.at_ {T : Nat → Oper → Prop} : ∀ (l : List Oper) (k : Nat), AllTell T k l → ∀ j o, l[j]? = some o → T (k + j) o
  | [], _, _, j, o, h => by simp at h
  | x :: l, k, h, 0, o, ho => by
    simp at ho; subst ho; exact h.1
  | x :: l, k, h, j + 1, o, ho => by
    have := AllTell.at_ l (k + 1) h.2 j o (by simpa using ho)
    rw [show k + (j + 1) = k + 1 + j by omega]; exact this

/-- A region that draws its order, in a class of worlds that does not hang on what has come up. -/
theorem wp_told {id : Nat} {F : Nat → Nat} {a0 : Act} {w0 : World} {C : World → Prop} {S : Nat → Value → World → Prop} {Kp : World → World → Prop} {Q : Exit → Act → World → Prop}
    (hm : P.follows .mixedOrders = true) (hc : check ops F a0.tmps.size = true)
    (hK : ∀ i x w w', Kp w w' → S i x w → S i x w')
    (h0 : C w0.drew) (hT : AllTell (Tells P ops F a0 (fun _ => C) S Kp) 0 ops.toList)
    (hend : ∀ v w, C w → (∀ i, i < ops.size → S i (v i) w) → Q .normal (putAll v 0 ops.toList a0) w) : (Code.region id ops true).wp P Q a0 w0 :=
  wp_tells hm hc hK (fun _ _ _ _ h => h) h0 (fun j o ho => by
    have := AllTell.at_ ops.toList 0 hT j o (by simpa using ho)
    rwa [Nat.zero_add] at this) hend

/-- One operation without a guard, in such a class. -/
theorem tell {F : Nat → Nat} {a0 : Act} {C : World → Prop} {S : Nat → Value → World → Prop} {Kp : World → World → Prop} {j : Nat} {o : Oper} (hg : o.guard = none)
    (h : ∀ (v : Nat → Value) (w : World), C w → (∀ i, (F j).testBit i = true → S i (v i) w) → ∀ ρ : Operand → Value, (∀ x ∈ o.op.operands, ρ x = look ops a0 (F j) v x) →
      ∀ K : Value → World → Prop, (∀ u w', C w' → Kp w w' → S j u w' → K u w') → Upon P K ((execOp ρ o).run P w)) : Tells P ops F a0 (fun _ => C) S Kp j o :=
  fun _ v w hC _ hF _ => ⟨fun _ ρ hρ => h v w hC (fun i ht => (hF i ht).2) ρ hρ _ (fun _ _ h1 h2 h3 => ⟨h1, h2, h3⟩), fun hm => absurd (by simp [met, hg]) hm⟩

/-- One operation with a guard. -/
theorem tellG {F : Nat → Nat} {a0 : Act} {C : World → Prop} {S : Nat → Value → World → Prop} {Kp : World → World → Prop} {j : Nat} {o : Oper} (g : Nat) (want : Bool) (hg : o.guard = some (g, want))
    (h : ∀ (v : Nat → Value) (w : World), C w → (∀ i, (F j).testBit i = true → S i (v i) w) → v g = .bool want → ∀ ρ : Operand → Value, (∀ x ∈ o.op.operands, ρ x = look ops a0 (F j) v x) →
      ∀ K : Value → World → Prop, (∀ u w', C w' → Kp w w' → S j u w' → K u w') → Upon P K ((execOp ρ o).run P w))
    (hn : ∀ (v : Nat → Value) (w : World), C w → (∀ i, (F j).testBit i = true → S i (v i) w) → v g ≠ .bool want → S j undef w) : Tells P ops F a0 (fun _ => C) S Kp j o :=
  fun _ v w hC _ hF _ => ⟨fun hm ρ hρ => h v w hC (fun i ht => (hF i ht).2) (by simpa [met, hg] using hm) ρ hρ _ (fun _ _ h1 h2 h3 => ⟨h1, h2, h3⟩),
    fun hm => ⟨hC, hn v w hC (fun i ht => (hF i ht).2) (fun e => hm (by simpa [met, hg] using e))⟩⟩

/-- What each operation tells, as a list. -/
def at_ (l : List (Value → World → Prop)) (i : Nat) : Value → World → Prop := l.getD i fun _ _ => True
def AllStay (Kp : World → World → Prop) : List (Value → World → Prop) → Prop
  | [] => True
  | p :: l => (∀ x w w', Kp w w' → p x w → p x w') ∧ AllStay Kp l
theorem AllStay.at_ {Kp : World → World → Prop} : ∀ {l : List (Value → World → Prop)}, AllStay Kp l → ∀ i x w w', Kp w w' → at_ l i x w → at_ l i x w'
  | [], _, _, _, _, _, _, _ => by simp [Spec.at_]
  | _ :: _, h, 0, x, w, w', hk, hp => h.1 x w w' hk hp
  | _ :: _, h, i + 1, x, w, w', hk, hp => AllStay.at_ h.2 i x w w' hk hp

theorem upon_value {K : Value → World → Prop} {u : Value} {w : World} : Upon P K (.ok (.value u) w) = K u w := rfl
theorem upon_skip {K : Value → World → Prop} {w : World} : Upon P K (.ok .skip w) = K undef w := rfl
theorem upon_enter {K : Value → World → Prop} {f : FuncId} {args : Array Value} {w : World} : Upon P K (.ok (.enter f args) w) = Calls P f args w fun e w' => ∃ u, e = .returned u ∧ K u w' := rfl
end
end Go.Proofs.Ytfkfpeiocdjniaa.Spec
