/-
  No cell of these rows narrows 'for every input' (looked for: loops, veiled, ifaces, maps, wideKeys, modest, calm, conditions, laid).
  DERIVED. THE GIVEN ROWS OF THIS SEAT. 9 by the template 'for every input the law returns true; each argument reads behind the call as it read before'; 0 by the template 'total and deterministic' (their statements: YtcknljndogbbhaaTotals.lean).
  GIVEN WITH THE SEED: the statements are not yours to turn. If you find one false, say at which input.
  Laid BY PROGRAM, IN A SANDBOX (cutbox-rows.mjs): the forced cells as the released guide's own fill.sh prints them over the translation 5b215edb50012822… (all of the seat's roots in one cut). By AI agents, Wed Nov 11 2026. No macro, syntax, notation, axiom, sorry.
-/
import Derived.Test.YtcknljndogbbhaaChecked
import GoSem.Claim
import GoSem.ClaimJoined
import GoSem.ClaimMapViews
import Derived.JoinedTies
import Derived.KernelRfl
namespace Go.Proofs.Ytcknljndogbbhaa
/- THE CELL 'sum', in the pinned program and in every row, IS THE sha256 OF THE DUMP (.gsa) THAT YtcknljndogbbhaaProg.lean LOADS. Nothing in Lean hashes anything: it is a label: what it is worth is what the hold of that sum in a sandbox is worth. -/
noncomputable def Try.pinned : Pinned := { name := "ytcknljndogbbhaa", sum := "5b215edb500128224a5dde6d07fd0f7b2ee3edde0cfcef74454c1c416866cf38", checked := Try.checked }
namespace Rows
def none {H : Type} : Left H := { results := [], args := [] }

/-- 'cantlelaw10.BitmapNext': WHATEVER THE INPUT: true; the input reads as it did. -/
def bitmapNextSpec : ChangeSpec := { name := "bitmapNext", fn := fun _ => fun
  | [d1, d2, d3] => { results := [.lit (.bool true)], args := [d1, d2, d3] }
  | _ => none }
def bitmapNextRow : OpenClaim := { program := "ytcknljndogbbhaa", sum := "5b215edb500128224a5dde6d07fd0f7b2ee3edde0cfcef74454c1c416866cf38", func := "cantle/cantlelaw10.BitmapNext", spec := "bitmapNext", apart := false }
def BitmapNextSaid : Prop := bitmapNextRow.holds Try.pinned (OpenSpec.ofChange bitmapNextSpec)

/-- ITS FALSE NEIGHBOUR: 'it returns false'. Refute it at one input. -/
def bitmapNextWrong : ChangeSpec := { name := "bitmapNext", fn := fun _ => fun
  | [d1, d2, d3] => { results := [.lit (.bool false)], args := [d1, d2, d3] }
  | _ => none }
def BitmapNextWrongFalsely : Prop := bitmapNextRow.holds Try.pinned (OpenSpec.ofChange bitmapNextWrong)

/-- 'cantlelaw10.BitmapOf': WHATEVER THE INPUT: true; the input reads as it did. -/
def bitmapOfSpec : ChangeSpec := { name := "bitmapOf", fn := fun _ => fun
  | [d1, d2] => { results := [.lit (.bool true)], args := [d1, d2] }
  | _ => none }
def bitmapOfRow : OpenClaim := { program := "ytcknljndogbbhaa", sum := "5b215edb500128224a5dde6d07fd0f7b2ee3edde0cfcef74454c1c416866cf38", func := "cantle/cantlelaw10.BitmapOf", spec := "bitmapOf", apart := false }
def BitmapOfSaid : Prop := bitmapOfRow.holds Try.pinned (OpenSpec.ofChange bitmapOfSpec)

/-- ITS FALSE NEIGHBOUR: 'it returns false'. Refute it at one input. -/
def bitmapOfWrong : ChangeSpec := { name := "bitmapOf", fn := fun _ => fun
  | [d1, d2] => { results := [.lit (.bool false)], args := [d1, d2] }
  | _ => none }
def BitmapOfWrongFalsely : Prop := bitmapOfRow.holds Try.pinned (OpenSpec.ofChange bitmapOfWrong)

/-- 'cantlelaw10.BitmapPlays': WHATEVER THE INPUT: true; the input reads as it did. -/
def bitmapPlaysSpec : ChangeSpec := { name := "bitmapPlays", fn := fun _ => fun
  | [d1, d2] => { results := [.lit (.bool true)], args := [d1, d2] }
  | _ => none }
def bitmapPlaysRow : OpenClaim := { program := "ytcknljndogbbhaa", sum := "5b215edb500128224a5dde6d07fd0f7b2ee3edde0cfcef74454c1c416866cf38", func := "cantle/cantlelaw10.BitmapPlays", spec := "bitmapPlays", apart := false }
def BitmapPlaysSaid : Prop := bitmapPlaysRow.holds Try.pinned (OpenSpec.ofChange bitmapPlaysSpec)

/-- ITS FALSE NEIGHBOUR: 'it returns false'. Refute it at one input. -/
def bitmapPlaysWrong : ChangeSpec := { name := "bitmapPlays", fn := fun _ => fun
  | [d1, d2] => { results := [.lit (.bool false)], args := [d1, d2] }
  | _ => none }
def BitmapPlaysWrongFalsely : Prop := bitmapPlaysRow.holds Try.pinned (OpenSpec.ofChange bitmapPlaysWrong)

/-- 'cantlelaw10.BitmapCopies': WHATEVER THE INPUT: true; the input reads as it did. -/
def bitmapCopiesSpec : ChangeSpec := { name := "bitmapCopies", fn := fun _ => fun
  | [d1, d2, d3] => { results := [.lit (.bool true)], args := [d1, d2, d3] }
  | _ => none }
def bitmapCopiesRow : OpenClaim := { program := "ytcknljndogbbhaa", sum := "5b215edb500128224a5dde6d07fd0f7b2ee3edde0cfcef74454c1c416866cf38", func := "cantle/cantlelaw10.BitmapCopies", spec := "bitmapCopies", apart := false }
def BitmapCopiesSaid : Prop := bitmapCopiesRow.holds Try.pinned (OpenSpec.ofChange bitmapCopiesSpec)

/-- ITS FALSE NEIGHBOUR: 'it returns false'. Refute it at one input. -/
def bitmapCopiesWrong : ChangeSpec := { name := "bitmapCopies", fn := fun _ => fun
  | [d1, d2, d3] => { results := [.lit (.bool false)], args := [d1, d2, d3] }
  | _ => none }
def BitmapCopiesWrongFalsely : Prop := bitmapCopiesRow.holds Try.pinned (OpenSpec.ofChange bitmapCopiesWrong)

/-- 'cantlelaw11.RunFits': WHATEVER THE INPUT: true; the input reads as it did. -/
def runFitsSpec : ChangeSpec := { name := "runFits", fn := fun _ => fun
  | [d1, d2, d3] => { results := [.lit (.bool true)], args := [d1, d2, d3] }
  | _ => none }
def runFitsRow : OpenClaim := { program := "ytcknljndogbbhaa", sum := "5b215edb500128224a5dde6d07fd0f7b2ee3edde0cfcef74454c1c416866cf38", func := "cantle/cantlelaw11.RunFits", spec := "runFits", apart := false }
def RunFitsSaid : Prop := runFitsRow.holds Try.pinned (OpenSpec.ofChange runFitsSpec)

/-- ITS FALSE NEIGHBOUR: 'it returns false'. Refute it at one input. -/
def runFitsWrong : ChangeSpec := { name := "runFits", fn := fun _ => fun
  | [d1, d2, d3] => { results := [.lit (.bool false)], args := [d1, d2, d3] }
  | _ => none }
def RunFitsWrongFalsely : Prop := runFitsRow.holds Try.pinned (OpenSpec.ofChange runFitsWrong)

/-- 'cantlelaw11.RunFree': WHATEVER THE INPUT: true; the input reads as it did. -/
def runFreeSpec : ChangeSpec := { name := "runFree", fn := fun _ => fun
  | [d1, d2, d3] => { results := [.lit (.bool true)], args := [d1, d2, d3] }
  | _ => none }
def runFreeRow : OpenClaim := { program := "ytcknljndogbbhaa", sum := "5b215edb500128224a5dde6d07fd0f7b2ee3edde0cfcef74454c1c416866cf38", func := "cantle/cantlelaw11.RunFree", spec := "runFree", apart := false }
def RunFreeSaid : Prop := runFreeRow.holds Try.pinned (OpenSpec.ofChange runFreeSpec)

/-- ITS FALSE NEIGHBOUR: 'it returns false'. Refute it at one input. -/
def runFreeWrong : ChangeSpec := { name := "runFree", fn := fun _ => fun
  | [d1, d2, d3] => { results := [.lit (.bool false)], args := [d1, d2, d3] }
  | _ => none }
def RunFreeWrongFalsely : Prop := runFreeRow.holds Try.pinned (OpenSpec.ofChange runFreeWrong)

/-- 'cantlelaw11.RunTakes': WHATEVER THE INPUT: true; the input reads as it did. -/
def runTakesSpec : ChangeSpec := { name := "runTakes", fn := fun _ => fun
  | [d1, d2, d3] => { results := [.lit (.bool true)], args := [d1, d2, d3] }
  | _ => none }
def runTakesRow : OpenClaim := { program := "ytcknljndogbbhaa", sum := "5b215edb500128224a5dde6d07fd0f7b2ee3edde0cfcef74454c1c416866cf38", func := "cantle/cantlelaw11.RunTakes", spec := "runTakes", apart := false }
def RunTakesSaid : Prop := runTakesRow.holds Try.pinned (OpenSpec.ofChange runTakesSpec)

/-- ITS FALSE NEIGHBOUR: 'it returns false'. Refute it at one input. -/
def runTakesWrong : ChangeSpec := { name := "runTakes", fn := fun _ => fun
  | [d1, d2, d3] => { results := [.lit (.bool false)], args := [d1, d2, d3] }
  | _ => none }
def RunTakesWrongFalsely : Prop := runTakesRow.holds Try.pinned (OpenSpec.ofChange runTakesWrong)

/-- 'cantlelaw11.RunOnce': WHATEVER THE INPUT: true; the input reads as it did. -/
def runOnceSpec : ChangeSpec := { name := "runOnce", fn := fun _ => fun
  | [d1, d2, d3] => { results := [.lit (.bool true)], args := [d1, d2, d3] }
  | _ => none }
def runOnceRow : OpenClaim := { program := "ytcknljndogbbhaa", sum := "5b215edb500128224a5dde6d07fd0f7b2ee3edde0cfcef74454c1c416866cf38", func := "cantle/cantlelaw11.RunOnce", spec := "runOnce", apart := false }
def RunOnceSaid : Prop := runOnceRow.holds Try.pinned (OpenSpec.ofChange runOnceSpec)

/-- ITS FALSE NEIGHBOUR: 'it returns false'. Refute it at one input. -/
def runOnceWrong : ChangeSpec := { name := "runOnce", fn := fun _ => fun
  | [d1, d2, d3] => { results := [.lit (.bool false)], args := [d1, d2, d3] }
  | _ => none }
def RunOnceWrongFalsely : Prop := runOnceRow.holds Try.pinned (OpenSpec.ofChange runOnceWrong)

/-- 'cantlelaw11.RunJoins': WHATEVER THE INPUT: true; the input reads as it did. -/
def runJoinsSpec : ChangeSpec := { name := "runJoins", fn := fun _ => fun
  | [d1, d2] => { results := [.lit (.bool true)], args := [d1, d2] }
  | _ => none }
def runJoinsRow : OpenClaim := { program := "ytcknljndogbbhaa", sum := "5b215edb500128224a5dde6d07fd0f7b2ee3edde0cfcef74454c1c416866cf38", func := "cantle/cantlelaw11.RunJoins", spec := "runJoins", apart := false }
def RunJoinsSaid : Prop := runJoinsRow.holds Try.pinned (OpenSpec.ofChange runJoinsSpec)

/-- ITS FALSE NEIGHBOUR: 'it returns false'. Refute it at one input. -/
def runJoinsWrong : ChangeSpec := { name := "runJoins", fn := fun _ => fun
  | [d1, d2] => { results := [.lit (.bool false)], args := [d1, d2] }
  | _ => none }
def RunJoinsWrongFalsely : Prop := runJoinsRow.holds Try.pinned (OpenSpec.ofChange runJoinsWrong)

/- THE SECOND FORM. 'bulk': how many values and letters a reading holds, each counted each time it is reached (what is shared counts as often as it is met; a slice's spare places count too). A statement '..UptoSaid' is the law's where the arguments, and the package variables that the reading takes, are together of bulk at most 1048576: NARROWER than '..Said'. Prove '..Said' where nothing that the law and all that it calls make is longer than what came in: it says more and counts as full. Else prove '..UptoSaid'. A law counts once. -/
mutual
def uptoBulk {H : Type} : DataW H → Nat
  | .lit (.string bytes) => bytes.length + 1
  | .lit _ => 1
  | .nil => 1
  | .ptr d => uptoBulk d + 1
  | .slice elems spare => uptoBulkAll elems + uptoBulkAll spare + 1
  | .agg parts => uptoBulkAll parts + 1
  | .iface _ d => uptoBulk d + 1
  | .map entries => uptoBulkEntries entries + 1
  | .held _ => 1
def uptoBulkAll {H : Type} : List (DataW H) → Nat
  | [] => 0
  | d :: r => uptoBulk d + uptoBulkAll r
def uptoBulkEntries {H : Type} : List (Lit × DataW H) → Nat
  | [] => 0
  | x :: r => uptoBulkEntry x + uptoBulkEntries r
def uptoBulkEntry {H : Type} : Lit × DataW H → Nat
  | (.string bytes, d) => bytes.length + uptoBulk d + 1
  | (_, d) => uptoBulk d + 1
 end
def uptoSmall : (H : Type) → List (DataW H) → Bool := fun _ ds => decide (uptoBulkAll ds ≤ 1048576)
def OpenSpec.upto (s : _root_.Go.ChangeSpec) : _root_.Go.OpenSpec := { _root_.Go.OpenSpec.ofChange s with cond := some uptoSmall }

/-- 'cantlelaw10.BitmapNext', WHERE WHAT IT READS IS OF BULK AT MOST 1048576: true; the input reads as it did. -/
def bitmapNextUptoRow : OpenClaim := { program := "ytcknljndogbbhaa", sum := "5b215edb500128224a5dde6d07fd0f7b2ee3edde0cfcef74454c1c416866cf38", func := "cantle/cantlelaw10.BitmapNext", spec := "bitmapNext", apart := false, narrowed := true }
def BitmapNextUptoSaid : Prop := bitmapNextUptoRow.holds Try.pinned (OpenSpec.upto bitmapNextSpec)

/-- 'cantlelaw10.BitmapOf', WHERE WHAT IT READS IS OF BULK AT MOST 1048576: true; the input reads as it did. -/
def bitmapOfUptoRow : OpenClaim := { program := "ytcknljndogbbhaa", sum := "5b215edb500128224a5dde6d07fd0f7b2ee3edde0cfcef74454c1c416866cf38", func := "cantle/cantlelaw10.BitmapOf", spec := "bitmapOf", apart := false, narrowed := true }
def BitmapOfUptoSaid : Prop := bitmapOfUptoRow.holds Try.pinned (OpenSpec.upto bitmapOfSpec)

/-- 'cantlelaw10.BitmapPlays', WHERE WHAT IT READS IS OF BULK AT MOST 1048576: true; the input reads as it did. -/
def bitmapPlaysUptoRow : OpenClaim := { program := "ytcknljndogbbhaa", sum := "5b215edb500128224a5dde6d07fd0f7b2ee3edde0cfcef74454c1c416866cf38", func := "cantle/cantlelaw10.BitmapPlays", spec := "bitmapPlays", apart := false, narrowed := true }
def BitmapPlaysUptoSaid : Prop := bitmapPlaysUptoRow.holds Try.pinned (OpenSpec.upto bitmapPlaysSpec)

/-- 'cantlelaw10.BitmapCopies', WHERE WHAT IT READS IS OF BULK AT MOST 1048576: true; the input reads as it did. -/
def bitmapCopiesUptoRow : OpenClaim := { program := "ytcknljndogbbhaa", sum := "5b215edb500128224a5dde6d07fd0f7b2ee3edde0cfcef74454c1c416866cf38", func := "cantle/cantlelaw10.BitmapCopies", spec := "bitmapCopies", apart := false, narrowed := true }
def BitmapCopiesUptoSaid : Prop := bitmapCopiesUptoRow.holds Try.pinned (OpenSpec.upto bitmapCopiesSpec)

/-- 'cantlelaw11.RunFits', WHERE WHAT IT READS IS OF BULK AT MOST 1048576: true; the input reads as it did. -/
def runFitsUptoRow : OpenClaim := { program := "ytcknljndogbbhaa", sum := "5b215edb500128224a5dde6d07fd0f7b2ee3edde0cfcef74454c1c416866cf38", func := "cantle/cantlelaw11.RunFits", spec := "runFits", apart := false, narrowed := true }
def RunFitsUptoSaid : Prop := runFitsUptoRow.holds Try.pinned (OpenSpec.upto runFitsSpec)

/-- 'cantlelaw11.RunFree', WHERE WHAT IT READS IS OF BULK AT MOST 1048576: true; the input reads as it did. -/
def runFreeUptoRow : OpenClaim := { program := "ytcknljndogbbhaa", sum := "5b215edb500128224a5dde6d07fd0f7b2ee3edde0cfcef74454c1c416866cf38", func := "cantle/cantlelaw11.RunFree", spec := "runFree", apart := false, narrowed := true }
def RunFreeUptoSaid : Prop := runFreeUptoRow.holds Try.pinned (OpenSpec.upto runFreeSpec)

/-- 'cantlelaw11.RunTakes', WHERE WHAT IT READS IS OF BULK AT MOST 1048576: true; the input reads as it did. -/
def runTakesUptoRow : OpenClaim := { program := "ytcknljndogbbhaa", sum := "5b215edb500128224a5dde6d07fd0f7b2ee3edde0cfcef74454c1c416866cf38", func := "cantle/cantlelaw11.RunTakes", spec := "runTakes", apart := false, narrowed := true }
def RunTakesUptoSaid : Prop := runTakesUptoRow.holds Try.pinned (OpenSpec.upto runTakesSpec)

/-- 'cantlelaw11.RunOnce', WHERE WHAT IT READS IS OF BULK AT MOST 1048576: true; the input reads as it did. -/
def runOnceUptoRow : OpenClaim := { program := "ytcknljndogbbhaa", sum := "5b215edb500128224a5dde6d07fd0f7b2ee3edde0cfcef74454c1c416866cf38", func := "cantle/cantlelaw11.RunOnce", spec := "runOnce", apart := false, narrowed := true }
def RunOnceUptoSaid : Prop := runOnceUptoRow.holds Try.pinned (OpenSpec.upto runOnceSpec)

/-- 'cantlelaw11.RunJoins', WHERE WHAT IT READS IS OF BULK AT MOST 1048576: true; the input reads as it did. -/
def runJoinsUptoRow : OpenClaim := { program := "ytcknljndogbbhaa", sum := "5b215edb500128224a5dde6d07fd0f7b2ee3edde0cfcef74454c1c416866cf38", func := "cantle/cantlelaw11.RunJoins", spec := "runJoins", apart := false, narrowed := true }
def RunJoinsUptoSaid : Prop := runJoinsUptoRow.holds Try.pinned (OpenSpec.upto runJoinsSpec)

end Rows
end Go.Proofs.Ytcknljndogbbhaa
