/-
  No cell of these rows narrows 'for every input' (looked for: loops, veiled, ifaces, maps, wideKeys, modest, calm, conditions, laid).
  DERIVED. THE GIVEN ROWS OF THIS SEAT. 12 by the template 'for every input the law returns true; each argument reads behind the call as it read before'; 0 by the template 'total and deterministic' (their statements: YtmhnnkifkbamoaaTotals.lean).
  GIVEN WITH THE SEED: the statements are not yours to turn. If you find one false, say at which input.
  Laid BY PROGRAM, IN A SANDBOX (cutbox-rows.mjs): the forced cells as the released guide's own fill.sh prints them over the translation 71c280d7ba49d503… (all of the seat's roots in one cut). By AI agents, Wed Nov 11 2026. No macro, syntax, notation, axiom, sorry.
-/
import Derived.Test.YtmhnnkifkbamoaaChecked
import GoSem.Claim
import GoSem.ClaimJoined
import GoSem.ClaimMapViews
import Derived.JoinedTies
import Derived.KernelRfl
namespace Go.Proofs.Ytmhnnkifkbamoaa
/- THE CELL 'sum', in the pinned program and in every row, IS THE sha256 OF THE DUMP (.gsa) THAT YtmhnnkifkbamoaaProg.lean LOADS. Nothing in Lean hashes anything: it is a label: what it is worth is what the hold of that sum in a sandbox is worth. -/
noncomputable def Try.pinned : Pinned := { name := "ytmhnnkifkbamoaa", sum := "71c280d7ba49d5037fbc92ccb4e2bb57438d2b5cf6aba081cbc5e7544d7a7ea5", checked := Try.checked }
namespace Rows
def none {H : Type} : Left H := { results := [], args := [] }

/-- 'minuetlaw16.Sums': WHATEVER THE INPUT: true; the input reads as it did. -/
def sumsSpec : ChangeSpec := { name := "sums", fn := fun _ => fun
  | [d] => { results := [.lit (.bool true)], args := [d] }
  | _ => none }
def sumsRow : OpenClaim := { program := "ytmhnnkifkbamoaa", sum := "71c280d7ba49d5037fbc92ccb4e2bb57438d2b5cf6aba081cbc5e7544d7a7ea5", func := "minuet/minuetlaw16.Sums", spec := "sums", apart := false }
def SumsSaid : Prop := sumsRow.holds Try.pinned (OpenSpec.ofChange sumsSpec)

/-- ITS FALSE NEIGHBOUR: 'it returns false'. Refute it at one input. -/
def sumsWrong : ChangeSpec := { name := "sums", fn := fun _ => fun
  | [d] => { results := [.lit (.bool false)], args := [d] }
  | _ => none }
def SumsWrongFalsely : Prop := sumsRow.holds Try.pinned (OpenSpec.ofChange sumsWrong)

/-- 'minuetlaw16.SumTurned': WHATEVER THE INPUT: true; the input reads as it did. -/
def sumTurnedSpec : ChangeSpec := { name := "sumTurned", fn := fun _ => fun
  | [d1, d2, d3] => { results := [.lit (.bool true)], args := [d1, d2, d3] }
  | _ => none }
def sumTurnedRow : OpenClaim := { program := "ytmhnnkifkbamoaa", sum := "71c280d7ba49d5037fbc92ccb4e2bb57438d2b5cf6aba081cbc5e7544d7a7ea5", func := "minuet/minuetlaw16.SumTurned", spec := "sumTurned", apart := false }
def SumTurnedSaid : Prop := sumTurnedRow.holds Try.pinned (OpenSpec.ofChange sumTurnedSpec)

/-- ITS FALSE NEIGHBOUR: 'it returns false'. Refute it at one input. -/
def sumTurnedWrong : ChangeSpec := { name := "sumTurned", fn := fun _ => fun
  | [d1, d2, d3] => { results := [.lit (.bool false)], args := [d1, d2, d3] }
  | _ => none }
def SumTurnedWrongFalsely : Prop := sumTurnedRow.holds Try.pinned (OpenSpec.ofChange sumTurnedWrong)

/-- 'minuetlaw16.SumParts': WHATEVER THE INPUT: true; the input reads as it did. -/
def sumPartsSpec : ChangeSpec := { name := "sumParts", fn := fun _ => fun
  | [d1, d2] => { results := [.lit (.bool true)], args := [d1, d2] }
  | _ => none }
def sumPartsRow : OpenClaim := { program := "ytmhnnkifkbamoaa", sum := "71c280d7ba49d5037fbc92ccb4e2bb57438d2b5cf6aba081cbc5e7544d7a7ea5", func := "minuet/minuetlaw16.SumParts", spec := "sumParts", apart := false }
def SumPartsSaid : Prop := sumPartsRow.holds Try.pinned (OpenSpec.ofChange sumPartsSpec)

/-- ITS FALSE NEIGHBOUR: 'it returns false'. Refute it at one input. -/
def sumPartsWrong : ChangeSpec := { name := "sumParts", fn := fun _ => fun
  | [d1, d2] => { results := [.lit (.bool false)], args := [d1, d2] }
  | _ => none }
def SumPartsWrongFalsely : Prop := sumPartsRow.holds Try.pinned (OpenSpec.ofChange sumPartsWrong)

/-- 'minuetlaw16.SumPlaces': WHATEVER THE INPUT: true; the input reads as it did. -/
def sumPlacesSpec : ChangeSpec := { name := "sumPlaces", fn := fun _ => fun
  | [d1, d2, d3] => { results := [.lit (.bool true)], args := [d1, d2, d3] }
  | _ => none }
def sumPlacesRow : OpenClaim := { program := "ytmhnnkifkbamoaa", sum := "71c280d7ba49d5037fbc92ccb4e2bb57438d2b5cf6aba081cbc5e7544d7a7ea5", func := "minuet/minuetlaw16.SumPlaces", spec := "sumPlaces", apart := false }
def SumPlacesSaid : Prop := sumPlacesRow.holds Try.pinned (OpenSpec.ofChange sumPlacesSpec)

/-- ITS FALSE NEIGHBOUR: 'it returns false'. Refute it at one input. -/
def sumPlacesWrong : ChangeSpec := { name := "sumPlaces", fn := fun _ => fun
  | [d1, d2, d3] => { results := [.lit (.bool false)], args := [d1, d2, d3] }
  | _ => none }
def SumPlacesWrongFalsely : Prop := sumPlacesRow.holds Try.pinned (OpenSpec.ofChange sumPlacesWrong)

/-- 'minuetlaw22.Queues': WHATEVER THE INPUT: true; the input reads as it did. -/
def queuesSpec : ChangeSpec := { name := "queues", fn := fun _ => fun
  | [d] => { results := [.lit (.bool true)], args := [d] }
  | _ => none }
def queuesRow : OpenClaim := { program := "ytmhnnkifkbamoaa", sum := "71c280d7ba49d5037fbc92ccb4e2bb57438d2b5cf6aba081cbc5e7544d7a7ea5", func := "minuet/minuetlaw22.Queues", spec := "queues", apart := false }
def QueuesSaid : Prop := queuesRow.holds Try.pinned (OpenSpec.ofChange queuesSpec)

/-- ITS FALSE NEIGHBOUR: 'it returns false'. Refute it at one input. -/
def queuesWrong : ChangeSpec := { name := "queues", fn := fun _ => fun
  | [d] => { results := [.lit (.bool false)], args := [d] }
  | _ => none }
def QueuesWrongFalsely : Prop := queuesRow.holds Try.pinned (OpenSpec.ofChange queuesWrong)

/-- 'minuetlaw22.QueueBounds': WHATEVER THE INPUT: true; the input reads as it did. -/
def queueBoundsSpec : ChangeSpec := { name := "queueBounds", fn := fun _ => fun
  | [d] => { results := [.lit (.bool true)], args := [d] }
  | _ => none }
def queueBoundsRow : OpenClaim := { program := "ytmhnnkifkbamoaa", sum := "71c280d7ba49d5037fbc92ccb4e2bb57438d2b5cf6aba081cbc5e7544d7a7ea5", func := "minuet/minuetlaw22.QueueBounds", spec := "queueBounds", apart := false }
def QueueBoundsSaid : Prop := queueBoundsRow.holds Try.pinned (OpenSpec.ofChange queueBoundsSpec)

/-- ITS FALSE NEIGHBOUR: 'it returns false'. Refute it at one input. -/
def queueBoundsWrong : ChangeSpec := { name := "queueBounds", fn := fun _ => fun
  | [d] => { results := [.lit (.bool false)], args := [d] }
  | _ => none }
def QueueBoundsWrongFalsely : Prop := queueBoundsRow.holds Try.pinned (OpenSpec.ofChange queueBoundsWrong)

/-- 'minuetlaw22.QueueBreaks': WHATEVER THE INPUT: true; the input reads as it did. -/
def queueBreaksSpec : ChangeSpec := { name := "queueBreaks", fn := fun _ => fun
  | [d1, d2, d3, d4] => { results := [.lit (.bool true)], args := [d1, d2, d3, d4] }
  | _ => none }
def queueBreaksRow : OpenClaim := { program := "ytmhnnkifkbamoaa", sum := "71c280d7ba49d5037fbc92ccb4e2bb57438d2b5cf6aba081cbc5e7544d7a7ea5", func := "minuet/minuetlaw22.QueueBreaks", spec := "queueBreaks", apart := false }
def QueueBreaksSaid : Prop := queueBreaksRow.holds Try.pinned (OpenSpec.ofChange queueBreaksSpec)

/-- ITS FALSE NEIGHBOUR: 'it returns false'. Refute it at one input. -/
def queueBreaksWrong : ChangeSpec := { name := "queueBreaks", fn := fun _ => fun
  | [d1, d2, d3, d4] => { results := [.lit (.bool false)], args := [d1, d2, d3, d4] }
  | _ => none }
def QueueBreaksWrongFalsely : Prop := queueBreaksRow.holds Try.pinned (OpenSpec.ofChange queueBreaksWrong)

/-- 'minuetlaw22.QueueTakes': WHATEVER THE INPUT: true; the input reads as it did. -/
def queueTakesSpec : ChangeSpec := { name := "queueTakes", fn := fun _ => fun
  | [d1, d2] => { results := [.lit (.bool true)], args := [d1, d2] }
  | _ => none }
def queueTakesRow : OpenClaim := { program := "ytmhnnkifkbamoaa", sum := "71c280d7ba49d5037fbc92ccb4e2bb57438d2b5cf6aba081cbc5e7544d7a7ea5", func := "minuet/minuetlaw22.QueueTakes", spec := "queueTakes", apart := false }
def QueueTakesSaid : Prop := queueTakesRow.holds Try.pinned (OpenSpec.ofChange queueTakesSpec)

/-- ITS FALSE NEIGHBOUR: 'it returns false'. Refute it at one input. -/
def queueTakesWrong : ChangeSpec := { name := "queueTakes", fn := fun _ => fun
  | [d1, d2] => { results := [.lit (.bool false)], args := [d1, d2] }
  | _ => none }
def QueueTakesWrongFalsely : Prop := queueTakesRow.holds Try.pinned (OpenSpec.ofChange queueTakesWrong)

/-- 'minuetlaw15.Patches': WHATEVER THE INPUT: true; the input reads as it did. -/
def patchesSpec : ChangeSpec := { name := "patches", fn := fun _ => fun
  | [d1, d2, d3] => { results := [.lit (.bool true)], args := [d1, d2, d3] }
  | _ => none }
def patchesRow : OpenClaim := { program := "ytmhnnkifkbamoaa", sum := "71c280d7ba49d5037fbc92ccb4e2bb57438d2b5cf6aba081cbc5e7544d7a7ea5", func := "minuet/minuetlaw15.Patches", spec := "patches", unfollowed := true, recurses := true, apart := false }
def PatchesSaid : Prop := patchesRow.holds Try.pinned (OpenSpec.ofChange patchesSpec)

/-- ITS FALSE NEIGHBOUR: 'it returns false'. Refute it at one input. -/
def patchesWrong : ChangeSpec := { name := "patches", fn := fun _ => fun
  | [d1, d2, d3] => { results := [.lit (.bool false)], args := [d1, d2, d3] }
  | _ => none }
def PatchesWrongFalsely : Prop := patchesRow.holds Try.pinned (OpenSpec.ofChange patchesWrong)

/-- 'minuetlaw15.PatchForms': WHATEVER THE INPUT: true; the input reads as it did. -/
def patchFormsSpec : ChangeSpec := { name := "patchForms", fn := fun _ => fun
  | [d1, d2] => { results := [.lit (.bool true)], args := [d1, d2] }
  | _ => none }
def patchFormsRow : OpenClaim := { program := "ytmhnnkifkbamoaa", sum := "71c280d7ba49d5037fbc92ccb4e2bb57438d2b5cf6aba081cbc5e7544d7a7ea5", func := "minuet/minuetlaw15.PatchForms", spec := "patchForms", unfollowed := true, recurses := true, apart := false }
def PatchFormsSaid : Prop := patchFormsRow.holds Try.pinned (OpenSpec.ofChange patchFormsSpec)

/-- ITS FALSE NEIGHBOUR: 'it returns false'. Refute it at one input. -/
def patchFormsWrong : ChangeSpec := { name := "patchForms", fn := fun _ => fun
  | [d1, d2] => { results := [.lit (.bool false)], args := [d1, d2] }
  | _ => none }
def PatchFormsWrongFalsely : Prop := patchFormsRow.holds Try.pinned (OpenSpec.ofChange patchFormsWrong)

/-- 'minuetlaw15.PatchSpans': WHATEVER THE INPUT: true; the input reads as it did. -/
def patchSpansSpec : ChangeSpec := { name := "patchSpans", fn := fun _ => fun
  | [d1, d2] => { results := [.lit (.bool true)], args := [d1, d2] }
  | _ => none }
def patchSpansRow : OpenClaim := { program := "ytmhnnkifkbamoaa", sum := "71c280d7ba49d5037fbc92ccb4e2bb57438d2b5cf6aba081cbc5e7544d7a7ea5", func := "minuet/minuetlaw15.PatchSpans", spec := "patchSpans", unfollowed := true, recurses := true, apart := false }
def PatchSpansSaid : Prop := patchSpansRow.holds Try.pinned (OpenSpec.ofChange patchSpansSpec)

/-- ITS FALSE NEIGHBOUR: 'it returns false'. Refute it at one input. -/
def patchSpansWrong : ChangeSpec := { name := "patchSpans", fn := fun _ => fun
  | [d1, d2] => { results := [.lit (.bool false)], args := [d1, d2] }
  | _ => none }
def PatchSpansWrongFalsely : Prop := patchSpansRow.holds Try.pinned (OpenSpec.ofChange patchSpansWrong)

/-- 'minuetlaw15.PatchTwice': WHATEVER THE INPUT: true; the input reads as it did. -/
def patchTwiceSpec : ChangeSpec := { name := "patchTwice", fn := fun _ => fun
  | [d1, d2] => { results := [.lit (.bool true)], args := [d1, d2] }
  | _ => none }
def patchTwiceRow : OpenClaim := { program := "ytmhnnkifkbamoaa", sum := "71c280d7ba49d5037fbc92ccb4e2bb57438d2b5cf6aba081cbc5e7544d7a7ea5", func := "minuet/minuetlaw15.PatchTwice", spec := "patchTwice", unfollowed := true, recurses := true, apart := false }
def PatchTwiceSaid : Prop := patchTwiceRow.holds Try.pinned (OpenSpec.ofChange patchTwiceSpec)

/-- ITS FALSE NEIGHBOUR: 'it returns false'. Refute it at one input. -/
def patchTwiceWrong : ChangeSpec := { name := "patchTwice", fn := fun _ => fun
  | [d1, d2] => { results := [.lit (.bool false)], args := [d1, d2] }
  | _ => none }
def PatchTwiceWrongFalsely : Prop := patchTwiceRow.holds Try.pinned (OpenSpec.ofChange patchTwiceWrong)

/- THE SECOND FORM. 'bulk': how many values and letters a reading holds, each counted each time it is reached (what is shared counts as often as it is met; a slice's spare places count too). A statement '..UptoSaid' is the law's where the arguments, and the package variables that the reading takes, are together of bulk at most 1048576: NARROWER than '..Said'. Prove '..Said' where nothing that the law and all that it calls make is longer than what came in: it says more and counts as full. Else prove '..UptoSaid'. A law counts once. -/
mutual
def uptoBulk {H : Type} : DataW H → Nat
  | .lit (.string bytes) => bytes.length + 1
  | .lit _ => 1
  | .nil => 1
  | .ptr d => uptoBulk d + 1
  | .slice elems spare => uptoBulkAll elems + uptoBulkAll spare + 1
  | .agg parts => uptoBulkAll parts + 1
  | .iface _ d => uptoBulk d + 1
  | .map entries => uptoBulkEntries entries + 1
  | .held _ => 1
def uptoBulkAll {H : Type} : List (DataW H) → Nat
  | [] => 0
  | d :: r => uptoBulk d + uptoBulkAll r
def uptoBulkEntries {H : Type} : List (Lit × DataW H) → Nat
  | [] => 0
  | x :: r => uptoBulkEntry x + uptoBulkEntries r
def uptoBulkEntry {H : Type} : Lit × DataW H → Nat
  | (.string bytes, d) => bytes.length + uptoBulk d + 1
  | (_, d) => uptoBulk d + 1
 end
def uptoSmall : (H : Type) → List (DataW H) → Bool := fun _ ds => decide (uptoBulkAll ds ≤ 1048576)
def OpenSpec.upto (s : _root_.Go.ChangeSpec) : _root_.Go.OpenSpec := { _root_.Go.OpenSpec.ofChange s with cond := some uptoSmall }

/-- 'minuetlaw16.Sums', WHERE WHAT IT READS IS OF BULK AT MOST 1048576: true; the input reads as it did. -/
def sumsUptoRow : OpenClaim := { program := "ytmhnnkifkbamoaa", sum := "71c280d7ba49d5037fbc92ccb4e2bb57438d2b5cf6aba081cbc5e7544d7a7ea5", func := "minuet/minuetlaw16.Sums", spec := "sums", apart := false, narrowed := true }
def SumsUptoSaid : Prop := sumsUptoRow.holds Try.pinned (OpenSpec.upto sumsSpec)

/-- 'minuetlaw16.SumTurned', WHERE WHAT IT READS IS OF BULK AT MOST 1048576: true; the input reads as it did. -/
def sumTurnedUptoRow : OpenClaim := { program := "ytmhnnkifkbamoaa", sum := "71c280d7ba49d5037fbc92ccb4e2bb57438d2b5cf6aba081cbc5e7544d7a7ea5", func := "minuet/minuetlaw16.SumTurned", spec := "sumTurned", apart := false, narrowed := true }
def SumTurnedUptoSaid : Prop := sumTurnedUptoRow.holds Try.pinned (OpenSpec.upto sumTurnedSpec)

/-- 'minuetlaw16.SumParts', WHERE WHAT IT READS IS OF BULK AT MOST 1048576: true; the input reads as it did. -/
def sumPartsUptoRow : OpenClaim := { program := "ytmhnnkifkbamoaa", sum := "71c280d7ba49d5037fbc92ccb4e2bb57438d2b5cf6aba081cbc5e7544d7a7ea5", func := "minuet/minuetlaw16.SumParts", spec := "sumParts", apart := false, narrowed := true }
def SumPartsUptoSaid : Prop := sumPartsUptoRow.holds Try.pinned (OpenSpec.upto sumPartsSpec)

/-- 'minuetlaw16.SumPlaces', WHERE WHAT IT READS IS OF BULK AT MOST 1048576: true; the input reads as it did. -/
def sumPlacesUptoRow : OpenClaim := { program := "ytmhnnkifkbamoaa", sum := "71c280d7ba49d5037fbc92ccb4e2bb57438d2b5cf6aba081cbc5e7544d7a7ea5", func := "minuet/minuetlaw16.SumPlaces", spec := "sumPlaces", apart := false, narrowed := true }
def SumPlacesUptoSaid : Prop := sumPlacesUptoRow.holds Try.pinned (OpenSpec.upto sumPlacesSpec)

/-- 'minuetlaw22.Queues', WHERE WHAT IT READS IS OF BULK AT MOST 1048576: true; the input reads as it did. -/
def queuesUptoRow : OpenClaim := { program := "ytmhnnkifkbamoaa", sum := "71c280d7ba49d5037fbc92ccb4e2bb57438d2b5cf6aba081cbc5e7544d7a7ea5", func := "minuet/minuetlaw22.Queues", spec := "queues", apart := false, narrowed := true }
def QueuesUptoSaid : Prop := queuesUptoRow.holds Try.pinned (OpenSpec.upto queuesSpec)

/-- 'minuetlaw22.QueueBounds', WHERE WHAT IT READS IS OF BULK AT MOST 1048576: true; the input reads as it did. -/
def queueBoundsUptoRow : OpenClaim := { program := "ytmhnnkifkbamoaa", sum := "71c280d7ba49d5037fbc92ccb4e2bb57438d2b5cf6aba081cbc5e7544d7a7ea5", func := "minuet/minuetlaw22.QueueBounds", spec := "queueBounds", apart := false, narrowed := true }
def QueueBoundsUptoSaid : Prop := queueBoundsUptoRow.holds Try.pinned (OpenSpec.upto queueBoundsSpec)

/-- 'minuetlaw22.QueueBreaks', WHERE WHAT IT READS IS OF BULK AT MOST 1048576: true; the input reads as it did. -/
def queueBreaksUptoRow : OpenClaim := { program := "ytmhnnkifkbamoaa", sum := "71c280d7ba49d5037fbc92ccb4e2bb57438d2b5cf6aba081cbc5e7544d7a7ea5", func := "minuet/minuetlaw22.QueueBreaks", spec := "queueBreaks", apart := false, narrowed := true }
def QueueBreaksUptoSaid : Prop := queueBreaksUptoRow.holds Try.pinned (OpenSpec.upto queueBreaksSpec)

/-- 'minuetlaw22.QueueTakes', WHERE WHAT IT READS IS OF BULK AT MOST 1048576: true; the input reads as it did. -/
def queueTakesUptoRow : OpenClaim := { program := "ytmhnnkifkbamoaa", sum := "71c280d7ba49d5037fbc92ccb4e2bb57438d2b5cf6aba081cbc5e7544d7a7ea5", func := "minuet/minuetlaw22.QueueTakes", spec := "queueTakes", apart := false, narrowed := true }
def QueueTakesUptoSaid : Prop := queueTakesUptoRow.holds Try.pinned (OpenSpec.upto queueTakesSpec)

/-- 'minuetlaw15.Patches', WHERE WHAT IT READS IS OF BULK AT MOST 1048576: true; the input reads as it did. -/
def patchesUptoRow : OpenClaim := { program := "ytmhnnkifkbamoaa", sum := "71c280d7ba49d5037fbc92ccb4e2bb57438d2b5cf6aba081cbc5e7544d7a7ea5", func := "minuet/minuetlaw15.Patches", spec := "patches", unfollowed := true, recurses := true, apart := false, narrowed := true }
def PatchesUptoSaid : Prop := patchesUptoRow.holds Try.pinned (OpenSpec.upto patchesSpec)

/-- 'minuetlaw15.PatchForms', WHERE WHAT IT READS IS OF BULK AT MOST 1048576: true; the input reads as it did. -/
def patchFormsUptoRow : OpenClaim := { program := "ytmhnnkifkbamoaa", sum := "71c280d7ba49d5037fbc92ccb4e2bb57438d2b5cf6aba081cbc5e7544d7a7ea5", func := "minuet/minuetlaw15.PatchForms", spec := "patchForms", unfollowed := true, recurses := true, apart := false, narrowed := true }
def PatchFormsUptoSaid : Prop := patchFormsUptoRow.holds Try.pinned (OpenSpec.upto patchFormsSpec)

/-- 'minuetlaw15.PatchSpans', WHERE WHAT IT READS IS OF BULK AT MOST 1048576: true; the input reads as it did. -/
def patchSpansUptoRow : OpenClaim := { program := "ytmhnnkifkbamoaa", sum := "71c280d7ba49d5037fbc92ccb4e2bb57438d2b5cf6aba081cbc5e7544d7a7ea5", func := "minuet/minuetlaw15.PatchSpans", spec := "patchSpans", unfollowed := true, recurses := true, apart := false, narrowed := true }
def PatchSpansUptoSaid : Prop := patchSpansUptoRow.holds Try.pinned (OpenSpec.upto patchSpansSpec)

/-- 'minuetlaw15.PatchTwice', WHERE WHAT IT READS IS OF BULK AT MOST 1048576: true; the input reads as it did. -/
def patchTwiceUptoRow : OpenClaim := { program := "ytmhnnkifkbamoaa", sum := "71c280d7ba49d5037fbc92ccb4e2bb57438d2b5cf6aba081cbc5e7544d7a7ea5", func := "minuet/minuetlaw15.PatchTwice", spec := "patchTwice", unfollowed := true, recurses := true, apart := false, narrowed := true }
def PatchTwiceUptoSaid : Prop := patchTwiceUptoRow.holds Try.pinned (OpenSpec.upto patchTwiceSpec)

end Rows
end Go.Proofs.Ytmhnnkifkbamoaa
