/-
  No cell of these rows narrows 'for every input' (looked for: loops, veiled, ifaces, maps, wideKeys, modest, calm, conditions, laid).
  DERIVED. THE GIVEN ROWS OF THIS SEAT. 4 by the template 'for every input the law returns true; each argument reads behind the call as it read before'; 0 by the template 'total and deterministic' (their statements: YtcankokamleloaaTotals.lean).
  GIVEN WITH THE SEED: the statements are not yours to turn. If you find one false, say at which input.
  Laid BY PROGRAM, IN A SANDBOX (cutbox-rows.mjs): the forced cells as the released guide's own fill.sh prints them over the translation 95c4a07f73144c6f… (all of the seat's roots in one cut). By AI agents, Wed Nov 11 2026. No macro, syntax, notation, axiom, sorry.
-/
import Derived.Test.YtcankokamleloaaChecked
import GoSem.Claim
import GoSem.ClaimJoined
import GoSem.ClaimMapViews
import Derived.JoinedTies
import Derived.KernelRfl
namespace Go.Proofs.Ytcankokamleloaa
/- THE CELL 'sum', in the pinned program and in every row, IS THE sha256 OF THE DUMP (.gsa) THAT YtcankokamleloaaProg.lean LOADS. Nothing in Lean hashes anything: it is a label: what it is worth is what the hold of that sum in a sandbox is worth. -/
noncomputable def Try.pinned : Pinned := { name := "ytcankokamleloaa", sum := "95c4a07f73144c6f26d43f7da02df925117771d1168e5d01066580171e5d04b3", checked := Try.checked }
namespace Rows
def none {H : Type} : Left H := { results := [], args := [] }

/-- 'cantlelaw04.GeometryNeeds': WHATEVER THE INPUT: true; the input reads as it did. -/
def geometryNeedsSpec : ChangeSpec := { name := "geometryNeeds", fn := fun _ => fun
  | [d1, d2, d3, d4] => { results := [.lit (.bool true)], args := [d1, d2, d3, d4] }
  | _ => none }
def geometryNeedsRow : OpenClaim := { program := "ytcankokamleloaa", sum := "95c4a07f73144c6f26d43f7da02df925117771d1168e5d01066580171e5d04b3", func := "cantle/cantlelaw04.GeometryNeeds", spec := "geometryNeeds", plainKeys := false, apart := false }
def GeometryNeedsSaid : Prop := geometryNeedsRow.holds Try.pinned (OpenSpec.ofChange geometryNeedsSpec)

/-- ITS FALSE NEIGHBOUR: 'it returns false'. Refute it at one input. -/
def geometryNeedsWrong : ChangeSpec := { name := "geometryNeeds", fn := fun _ => fun
  | [d1, d2, d3, d4] => { results := [.lit (.bool false)], args := [d1, d2, d3, d4] }
  | _ => none }
def GeometryNeedsWrongFalsely : Prop := geometryNeedsRow.holds Try.pinned (OpenSpec.ofChange geometryNeedsWrong)

/-- 'cantlelaw04.GeometryBits': WHATEVER THE INPUT: true; the input reads as it did. -/
def geometryBitsSpec : ChangeSpec := { name := "geometryBits", fn := fun _ => fun
  | [d1, d2, d3] => { results := [.lit (.bool true)], args := [d1, d2, d3] }
  | _ => none }
def geometryBitsRow : OpenClaim := { program := "ytcankokamleloaa", sum := "95c4a07f73144c6f26d43f7da02df925117771d1168e5d01066580171e5d04b3", func := "cantle/cantlelaw04.GeometryBits", spec := "geometryBits", plainKeys := false, apart := false }
def GeometryBitsSaid : Prop := geometryBitsRow.holds Try.pinned (OpenSpec.ofChange geometryBitsSpec)

/-- ITS FALSE NEIGHBOUR: 'it returns false'. Refute it at one input. -/
def geometryBitsWrong : ChangeSpec := { name := "geometryBits", fn := fun _ => fun
  | [d1, d2, d3] => { results := [.lit (.bool false)], args := [d1, d2, d3] }
  | _ => none }
def GeometryBitsWrongFalsely : Prop := geometryBitsRow.holds Try.pinned (OpenSpec.ofChange geometryBitsWrong)

/-- 'cantlelaw04.GeometryApart': WHATEVER THE INPUT: true; the input reads as it did. -/
def geometryApartSpec : ChangeSpec := { name := "geometryApart", fn := fun _ => fun
  | [d1, d2, d3] => { results := [.lit (.bool true)], args := [d1, d2, d3] }
  | _ => none }
def geometryApartRow : OpenClaim := { program := "ytcankokamleloaa", sum := "95c4a07f73144c6f26d43f7da02df925117771d1168e5d01066580171e5d04b3", func := "cantle/cantlelaw04.GeometryApart", spec := "geometryApart", unfollowed := true, recurses := true, plainKeys := false, apart := false }
def GeometryApartSaid : Prop := geometryApartRow.holds Try.pinned (OpenSpec.ofChange geometryApartSpec)

/-- ITS FALSE NEIGHBOUR: 'it returns false'. Refute it at one input. -/
def geometryApartWrong : ChangeSpec := { name := "geometryApart", fn := fun _ => fun
  | [d1, d2, d3] => { results := [.lit (.bool false)], args := [d1, d2, d3] }
  | _ => none }
def GeometryApartWrongFalsely : Prop := geometryApartRow.holds Try.pinned (OpenSpec.ofChange geometryApartWrong)

/-- 'cantlelaw04.GeometryPlaces': WHATEVER THE INPUT: true; the input reads as it did. -/
def geometryPlacesSpec : ChangeSpec := { name := "geometryPlaces", fn := fun _ => fun
  | [d1, d2, d3, d4] => { results := [.lit (.bool true)], args := [d1, d2, d3, d4] }
  | _ => none }
def geometryPlacesRow : OpenClaim := { program := "ytcankokamleloaa", sum := "95c4a07f73144c6f26d43f7da02df925117771d1168e5d01066580171e5d04b3", func := "cantle/cantlelaw04.GeometryPlaces", spec := "geometryPlaces", plainKeys := false, apart := false }
def GeometryPlacesSaid : Prop := geometryPlacesRow.holds Try.pinned (OpenSpec.ofChange geometryPlacesSpec)

/-- ITS FALSE NEIGHBOUR: 'it returns false'. Refute it at one input. -/
def geometryPlacesWrong : ChangeSpec := { name := "geometryPlaces", fn := fun _ => fun
  | [d1, d2, d3, d4] => { results := [.lit (.bool false)], args := [d1, d2, d3, d4] }
  | _ => none }
def GeometryPlacesWrongFalsely : Prop := geometryPlacesRow.holds Try.pinned (OpenSpec.ofChange geometryPlacesWrong)

/- THE SECOND FORM. 'bulk': how many values and letters a reading holds, each counted each time it is reached (what is shared counts as often as it is met; a slice's spare places count too). A statement '..UptoSaid' is the law's where the arguments, and the package variables that the reading takes, are together of bulk at most 1048576: NARROWER than '..Said'. Prove '..Said' where nothing that the law and all that it calls make is longer than what came in: it says more and counts as full. Else prove '..UptoSaid'. A law counts once. -/
mutual
def uptoBulk {H : Type} : DataW H → Nat
  | .lit (.string bytes) => bytes.length + 1
  | .lit _ => 1
  | .nil => 1
  | .ptr d => uptoBulk d + 1
  | .slice elems spare => uptoBulkAll elems + uptoBulkAll spare + 1
  | .agg parts => uptoBulkAll parts + 1
  | .iface _ d => uptoBulk d + 1
  | .map entries => uptoBulkEntries entries + 1
  | .held _ => 1
def uptoBulkAll {H : Type} : List (DataW H) → Nat
  | [] => 0
  | d :: r => uptoBulk d + uptoBulkAll r
def uptoBulkEntries {H : Type} : List (Lit × DataW H) → Nat
  | [] => 0
  | x :: r => uptoBulkEntry x + uptoBulkEntries r
def uptoBulkEntry {H : Type} : Lit × DataW H → Nat
  | (.string bytes, d) => bytes.length + uptoBulk d + 1
  | (_, d) => uptoBulk d + 1
 end
def uptoSmall : (H : Type) → List (DataW H) → Bool := fun _ ds => decide (uptoBulkAll ds ≤ 1048576)
def OpenSpec.upto (s : _root_.Go.ChangeSpec) : _root_.Go.OpenSpec := { _root_.Go.OpenSpec.ofChange s with cond := some uptoSmall }

/-- 'cantlelaw04.GeometryNeeds', WHERE WHAT IT READS IS OF BULK AT MOST 1048576: true; the input reads as it did. -/
def geometryNeedsUptoRow : OpenClaim := { program := "ytcankokamleloaa", sum := "95c4a07f73144c6f26d43f7da02df925117771d1168e5d01066580171e5d04b3", func := "cantle/cantlelaw04.GeometryNeeds", spec := "geometryNeeds", plainKeys := false, apart := false, narrowed := true }
def GeometryNeedsUptoSaid : Prop := geometryNeedsUptoRow.holds Try.pinned (OpenSpec.upto geometryNeedsSpec)

/-- 'cantlelaw04.GeometryBits', WHERE WHAT IT READS IS OF BULK AT MOST 1048576: true; the input reads as it did. -/
def geometryBitsUptoRow : OpenClaim := { program := "ytcankokamleloaa", sum := "95c4a07f73144c6f26d43f7da02df925117771d1168e5d01066580171e5d04b3", func := "cantle/cantlelaw04.GeometryBits", spec := "geometryBits", plainKeys := false, apart := false, narrowed := true }
def GeometryBitsUptoSaid : Prop := geometryBitsUptoRow.holds Try.pinned (OpenSpec.upto geometryBitsSpec)

/-- 'cantlelaw04.GeometryApart', WHERE WHAT IT READS IS OF BULK AT MOST 1048576: true; the input reads as it did. -/
def geometryApartUptoRow : OpenClaim := { program := "ytcankokamleloaa", sum := "95c4a07f73144c6f26d43f7da02df925117771d1168e5d01066580171e5d04b3", func := "cantle/cantlelaw04.GeometryApart", spec := "geometryApart", unfollowed := true, recurses := true, plainKeys := false, apart := false, narrowed := true }
def GeometryApartUptoSaid : Prop := geometryApartUptoRow.holds Try.pinned (OpenSpec.upto geometryApartSpec)

/-- 'cantlelaw04.GeometryPlaces', WHERE WHAT IT READS IS OF BULK AT MOST 1048576: true; the input reads as it did. -/
def geometryPlacesUptoRow : OpenClaim := { program := "ytcankokamleloaa", sum := "95c4a07f73144c6f26d43f7da02df925117771d1168e5d01066580171e5d04b3", func := "cantle/cantlelaw04.GeometryPlaces", spec := "geometryPlaces", plainKeys := false, apart := false, narrowed := true }
def GeometryPlacesUptoSaid : Prop := geometryPlacesUptoRow.holds Try.pinned (OpenSpec.upto geometryPlacesSpec)

end Rows
end Go.Proofs.Ytcankokamleloaa
