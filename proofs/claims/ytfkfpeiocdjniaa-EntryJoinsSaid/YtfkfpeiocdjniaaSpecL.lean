/- Regions that draw their order, in a class of worlds that hangs on what has come up. Conditions: as each lemma says. -/
import Derived.Test.YtfkfpeiocdjniaaSpec
namespace Go.Proofs.Ytfkfpeiocdjniaa.Spec
open Go
variable {P : Program} {ops : Array Oper}
theorem wp_toldL {id : Nat} {F : Nat → Nat} {a0 : Act} {w0 : World} {C : (Nat → Bool) → World → Prop} {S : Nat → Value → World → Prop} {Kp : World → World → Prop} {Q : Exit → Act → World → Prop}
    (hm : P.follows .mixedOrders = true) (hc : check ops F a0.tmps.size = true)
    (hK : ∀ i x w w', Kp w w' → S i x w → S i x w') (hcong : ∀ L L' w, (∀ i, i < ops.size → L i = L' i) → C L w → C L' w)
    (h0 : C (fun _ => false) w0.drew) (hT : AllTell (Tells P ops F a0 C S Kp) 0 ops.toList)
    (hend : ∀ v w, C (fun _ => true) w → (∀ i, i < ops.size → S i (v i) w) → Q .normal (putAll v 0 ops.toList a0) w) : (Code.region id ops true).wp P Q a0 w0 :=
  wp_tells hm hc hK hcong h0 (fun j o ho => by
    have := AllTell.at_ ops.toList 0 hT j o (by simpa using ho)
    rwa [Nat.zero_add] at this) hend
theorem tellL {F : Nat → Nat} {a0 : Act} {C : (Nat → Bool) → World → Prop} {S : Nat → Value → World → Prop} {Kp : World → World → Prop} {j : Nat} {o : Oper} (hg : o.guard = none)
    (h : ∀ (L : Nat → Bool) (v : Nat → Value) (w : World), C L w → L j = false → (∀ i, (F j).testBit i = true → L i = true ∧ S i (v i) w) → (∀ i, i < ops.size → (F i).testBit j = true → L i = false) → ∀ ρ : Operand → Value, (∀ x ∈ o.op.operands, ρ x = look ops a0 (F j) v x) →
      ∀ K : Value → World → Prop, (∀ u w', C (fun i => if i = j then true else L i) w' → Kp w w' → S j u w' → K u w') → Upon P K ((execOp ρ o).run P w)) : Tells P ops F a0 C S Kp j o :=
  fun L v w hC hL hF hD => ⟨fun _ ρ hρ => h L v w hC hL hF hD ρ hρ _ (fun _ _ h1 h2 h3 => ⟨h1, h2, h3⟩), fun hm => absurd (by simp [met, hg]) hm⟩
theorem tellGL {F : Nat → Nat} {a0 : Act} {C : (Nat → Bool) → World → Prop} {S : Nat → Value → World → Prop} {Kp : World → World → Prop} {j : Nat} {o : Oper} (g : Nat) (want : Bool) (hg : o.guard = some (g, want))
    (h : ∀ (L : Nat → Bool) (v : Nat → Value) (w : World), C L w → L j = false → (∀ i, (F j).testBit i = true → L i = true ∧ S i (v i) w) → (∀ i, i < ops.size → (F i).testBit j = true → L i = false) → v g = .bool want → ∀ ρ : Operand → Value, (∀ x ∈ o.op.operands, ρ x = look ops a0 (F j) v x) →
      ∀ K : Value → World → Prop, (∀ u w', C (fun i => if i = j then true else L i) w' → Kp w w' → S j u w' → K u w') → Upon P K ((execOp ρ o).run P w))
    (hn : ∀ (L : Nat → Bool) (v : Nat → Value) (w : World), C L w → L j = false → (∀ i, (F j).testBit i = true → L i = true ∧ S i (v i) w) → v g ≠ .bool want → C (fun i => if i = j then true else L i) w ∧ S j undef w) : Tells P ops F a0 C S Kp j o :=
  fun L v w hC hL hF hD => ⟨fun hm ρ hρ => h L v w hC hL hF hD (by simpa [met, hg] using hm) ρ hρ _ (fun _ _ h1 h2 h3 => ⟨h1, h2, h3⟩),
    fun hm => hn L v w hC hL hF (fun e => hm (by simpa [met, hg] using e))⟩
end Go.Proofs.Ytfkfpeiocdjniaa.Spec
