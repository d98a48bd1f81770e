/-
  No cell of these rows narrows 'for every input' (looked for: loops, veiled, ifaces, maps, wideKeys, modest, calm, conditions, laid).
  DERIVED. THE GIVEN ROWS OF THIS SEAT. 16 by the template 'for every input the law returns true; each argument reads behind the call as it read before'; 0 by the template 'total and deterministic' (their statements: YtapfihlgemejiaaTotals.lean).
  GIVEN WITH THE SEED: the statements are not yours to turn. If you find one false, say at which input.
  Laid BY PROGRAM, IN A SANDBOX (cutbox-rows.mjs): the forced cells as the released guide's own fill.sh prints them over the translation b9784775aa5f3708… (all of the seat's roots in one cut). By AI agents, Wed Nov 11 2026. No macro, syntax, notation, axiom, sorry.
-/
import Derived.Test.YtapfihlgemejiaaChecked
import GoSem.Claim
import GoSem.ClaimJoined
import GoSem.ClaimMapViews
import Derived.JoinedTies
import Derived.KernelRfl
namespace Go.Proofs.Ytapfihlgemejiaa
/- THE CELL 'sum', in the pinned program and in every row, IS THE sha256 OF THE DUMP (.gsa) THAT YtapfihlgemejiaaProg.lean LOADS. Nothing in Lean hashes anything: it is a label: what it is worth is what the hold of that sum in a sandbox is worth. -/
noncomputable def Try.pinned : Pinned := { name := "ytapfihlgemejiaa", sum := "b9784775aa5f37084150e946ccde696a3b117089051cf5cda59410131b000541", checked := Try.checked }
namespace Rows
def none {H : Type} : Left H := { results := [], args := [] }

/-- 'gnomonlaw16.PassedFull': WHATEVER THE INPUT: true; the input reads as it did. -/
def passedFullSpec : ChangeSpec := { name := "passedFull", fn := fun _ => fun
  | [d1, d2] => { results := [.lit (.bool true)], args := [d1, d2] }
  | _ => none }
def passedFullRow : OpenClaim := { program := "ytapfihlgemejiaa", sum := "b9784775aa5f37084150e946ccde696a3b117089051cf5cda59410131b000541", func := "gnomon/gnomonlaw16.PassedFull", spec := "passedFull", apart := false }
def PassedFullSaid : Prop := passedFullRow.holds Try.pinned (OpenSpec.ofChange passedFullSpec)

/-- ITS FALSE NEIGHBOUR: 'it returns false'. Refute it at one input. -/
def passedFullWrong : ChangeSpec := { name := "passedFull", fn := fun _ => fun
  | [d1, d2] => { results := [.lit (.bool false)], args := [d1, d2] }
  | _ => none }
def PassedFullWrongFalsely : Prop := passedFullRow.holds Try.pinned (OpenSpec.ofChange passedFullWrong)

/-- 'gnomonlaw16.PassedCovers': WHATEVER THE INPUT: true; the input reads as it did. -/
def passedCoversSpec : ChangeSpec := { name := "passedCovers", fn := fun _ => fun
  | [d1, d2] => { results := [.lit (.bool true)], args := [d1, d2] }
  | _ => none }
def passedCoversRow : OpenClaim := { program := "ytapfihlgemejiaa", sum := "b9784775aa5f37084150e946ccde696a3b117089051cf5cda59410131b000541", func := "gnomon/gnomonlaw16.PassedCovers", spec := "passedCovers", apart := false }
def PassedCoversSaid : Prop := passedCoversRow.holds Try.pinned (OpenSpec.ofChange passedCoversSpec)

/-- ITS FALSE NEIGHBOUR: 'it returns false'. Refute it at one input. -/
def passedCoversWrong : ChangeSpec := { name := "passedCovers", fn := fun _ => fun
  | [d1, d2] => { results := [.lit (.bool false)], args := [d1, d2] }
  | _ => none }
def PassedCoversWrongFalsely : Prop := passedCoversRow.holds Try.pinned (OpenSpec.ofChange passedCoversWrong)

/-- 'gnomonlaw16.PassedOnce': WHATEVER THE INPUT: true; the input reads as it did. -/
def passedOnceSpec : ChangeSpec := { name := "passedOnce", fn := fun _ => fun
  | [d1, d2] => { results := [.lit (.bool true)], args := [d1, d2] }
  | _ => none }
def passedOnceRow : OpenClaim := { program := "ytapfihlgemejiaa", sum := "b9784775aa5f37084150e946ccde696a3b117089051cf5cda59410131b000541", func := "gnomon/gnomonlaw16.PassedOnce", spec := "passedOnce", apart := false }
def PassedOnceSaid : Prop := passedOnceRow.holds Try.pinned (OpenSpec.ofChange passedOnceSpec)

/-- ITS FALSE NEIGHBOUR: 'it returns false'. Refute it at one input. -/
def passedOnceWrong : ChangeSpec := { name := "passedOnce", fn := fun _ => fun
  | [d1, d2] => { results := [.lit (.bool false)], args := [d1, d2] }
  | _ => none }
def PassedOnceWrongFalsely : Prop := passedOnceRow.holds Try.pinned (OpenSpec.ofChange passedOnceWrong)

/-- 'gnomonlaw16.PassedOwn': WHATEVER THE INPUT: true; the input reads as it did. -/
def passedOwnSpec : ChangeSpec := { name := "passedOwn", fn := fun _ => fun
  | [d1, d2] => { results := [.lit (.bool true)], args := [d1, d2] }
  | _ => none }
def passedOwnRow : OpenClaim := { program := "ytapfihlgemejiaa", sum := "b9784775aa5f37084150e946ccde696a3b117089051cf5cda59410131b000541", func := "gnomon/gnomonlaw16.PassedOwn", spec := "passedOwn", apart := false }
def PassedOwnSaid : Prop := passedOwnRow.holds Try.pinned (OpenSpec.ofChange passedOwnSpec)

/-- ITS FALSE NEIGHBOUR: 'it returns false'. Refute it at one input. -/
def passedOwnWrong : ChangeSpec := { name := "passedOwn", fn := fun _ => fun
  | [d1, d2] => { results := [.lit (.bool false)], args := [d1, d2] }
  | _ => none }
def PassedOwnWrongFalsely : Prop := passedOwnRow.holds Try.pinned (OpenSpec.ofChange passedOwnWrong)

/-- 'gnomontop.TopNumbers': WHATEVER THE INPUT: true; the input reads as it did. -/
def topNumbersSpec : ChangeSpec := { name := "topNumbers", fn := fun _ => fun
  | [d1, d2, d3] => { results := [.lit (.bool true)], args := [d1, d2, d3] }
  | _ => none }
def topNumbersRow : OpenClaim := { program := "ytapfihlgemejiaa", sum := "b9784775aa5f37084150e946ccde696a3b117089051cf5cda59410131b000541", func := "gnomon/gnomontop.TopNumbers", spec := "topNumbers", inPlace := ["math/bits.Sub64", "math/bits.Add64"], unfollowed := true, recurses := true, apart := false }
def TopNumbersSaid : Prop := topNumbersRow.holds Try.pinned (OpenSpec.ofChange topNumbersSpec)

/-- ITS FALSE NEIGHBOUR: 'it returns false'. Refute it at one input. -/
def topNumbersWrong : ChangeSpec := { name := "topNumbers", fn := fun _ => fun
  | [d1, d2, d3] => { results := [.lit (.bool false)], args := [d1, d2, d3] }
  | _ => none }
def TopNumbersWrongFalsely : Prop := topNumbersRow.holds Try.pinned (OpenSpec.ofChange topNumbersWrong)

/-- 'gnomonlaw16.PassedOrders': WHATEVER THE INPUT: true; the input reads as it did. -/
def passedOrdersSpec : ChangeSpec := { name := "passedOrders", fn := fun _ => fun
  | [d1, d2] => { results := [.lit (.bool true)], args := [d1, d2] }
  | _ => none }
def passedOrdersRow : OpenClaim := { program := "ytapfihlgemejiaa", sum := "b9784775aa5f37084150e946ccde696a3b117089051cf5cda59410131b000541", func := "gnomon/gnomonlaw16.PassedOrders", spec := "passedOrders", apart := false }
def PassedOrdersSaid : Prop := passedOrdersRow.holds Try.pinned (OpenSpec.ofChange passedOrdersSpec)

/-- ITS FALSE NEIGHBOUR: 'it returns false'. Refute it at one input. -/
def passedOrdersWrong : ChangeSpec := { name := "passedOrders", fn := fun _ => fun
  | [d1, d2] => { results := [.lit (.bool false)], args := [d1, d2] }
  | _ => none }
def PassedOrdersWrongFalsely : Prop := passedOrdersRow.holds Try.pinned (OpenSpec.ofChange passedOrdersWrong)

/-- 'gnomontop.TopFollows': WHATEVER THE INPUT: true; the input reads as it did. -/
def topFollowsSpec : ChangeSpec := { name := "topFollows", fn := fun _ => fun
  | [d1, d2] => { results := [.lit (.bool true)], args := [d1, d2] }
  | _ => none }
def topFollowsRow : OpenClaim := { program := "ytapfihlgemejiaa", sum := "b9784775aa5f37084150e946ccde696a3b117089051cf5cda59410131b000541", func := "gnomon/gnomontop.TopFollows", spec := "topFollows", inPlace := ["math/bits.Sub64", "math/bits.Add64"], apart := false }
def TopFollowsSaid : Prop := topFollowsRow.holds Try.pinned (OpenSpec.ofChange topFollowsSpec)

/-- ITS FALSE NEIGHBOUR: 'it returns false'. Refute it at one input. -/
def topFollowsWrong : ChangeSpec := { name := "topFollows", fn := fun _ => fun
  | [d1, d2] => { results := [.lit (.bool false)], args := [d1, d2] }
  | _ => none }
def TopFollowsWrongFalsely : Prop := topFollowsRow.holds Try.pinned (OpenSpec.ofChange topFollowsWrong)

/-- 'gnomonlaw16.PassedNone': WHATEVER THE INPUT: true; the input reads as it did. -/
def passedNoneSpec : ChangeSpec := { name := "passedNone", fn := fun _ => fun
  | [d1, d2] => { results := [.lit (.bool true)], args := [d1, d2] }
  | _ => none }
def passedNoneRow : OpenClaim := { program := "ytapfihlgemejiaa", sum := "b9784775aa5f37084150e946ccde696a3b117089051cf5cda59410131b000541", func := "gnomon/gnomonlaw16.PassedNone", spec := "passedNone", apart := false }
def PassedNoneSaid : Prop := passedNoneRow.holds Try.pinned (OpenSpec.ofChange passedNoneSpec)

/-- ITS FALSE NEIGHBOUR: 'it returns false'. Refute it at one input. -/
def passedNoneWrong : ChangeSpec := { name := "passedNone", fn := fun _ => fun
  | [d1, d2] => { results := [.lit (.bool false)], args := [d1, d2] }
  | _ => none }
def PassedNoneWrongFalsely : Prop := passedNoneRow.holds Try.pinned (OpenSpec.ofChange passedNoneWrong)

/-- 'gnomonlaw16.PassedKeeps': WHATEVER THE INPUT: true; the input reads as it did. -/
def passedKeepsSpec : ChangeSpec := { name := "passedKeeps", fn := fun _ => fun
  | [d1, d2] => { results := [.lit (.bool true)], args := [d1, d2] }
  | _ => none }
def passedKeepsRow : OpenClaim := { program := "ytapfihlgemejiaa", sum := "b9784775aa5f37084150e946ccde696a3b117089051cf5cda59410131b000541", func := "gnomon/gnomonlaw16.PassedKeeps", spec := "passedKeeps", apart := false }
def PassedKeepsSaid : Prop := passedKeepsRow.holds Try.pinned (OpenSpec.ofChange passedKeepsSpec)

/-- ITS FALSE NEIGHBOUR: 'it returns false'. Refute it at one input. -/
def passedKeepsWrong : ChangeSpec := { name := "passedKeeps", fn := fun _ => fun
  | [d1, d2] => { results := [.lit (.bool false)], args := [d1, d2] }
  | _ => none }
def PassedKeepsWrongFalsely : Prop := passedKeepsRow.holds Try.pinned (OpenSpec.ofChange passedKeepsWrong)

/-- 'gnomonlaw16.PassedRuns': WHATEVER THE INPUT: true; the input reads as it did. -/
def passedRunsSpec : ChangeSpec := { name := "passedRuns", fn := fun _ => fun
  | [d1, d2] => { results := [.lit (.bool true)], args := [d1, d2] }
  | _ => none }
def passedRunsRow : OpenClaim := { program := "ytapfihlgemejiaa", sum := "b9784775aa5f37084150e946ccde696a3b117089051cf5cda59410131b000541", func := "gnomon/gnomonlaw16.PassedRuns", spec := "passedRuns", apart := false }
def PassedRunsSaid : Prop := passedRunsRow.holds Try.pinned (OpenSpec.ofChange passedRunsSpec)

/-- ITS FALSE NEIGHBOUR: 'it returns false'. Refute it at one input. -/
def passedRunsWrong : ChangeSpec := { name := "passedRuns", fn := fun _ => fun
  | [d1, d2] => { results := [.lit (.bool false)], args := [d1, d2] }
  | _ => none }
def PassedRunsWrongFalsely : Prop := passedRunsRow.holds Try.pinned (OpenSpec.ofChange passedRunsWrong)

/-- 'gnomonlaw25.ReduceFewest': WHATEVER THE INPUT: true; the input reads as it did. -/
def reduceFewestSpec : ChangeSpec := { name := "reduceFewest", fn := fun _ => fun
  | [d1, d2] => { results := [.lit (.bool true)], args := [d1, d2] }
  | _ => none }
def reduceFewestRow : OpenClaim := { program := "ytapfihlgemejiaa", sum := "b9784775aa5f37084150e946ccde696a3b117089051cf5cda59410131b000541", func := "gnomon/gnomonlaw25.ReduceFewest", spec := "reduceFewest", unfollowed := true, recurses := true, apart := false }
def ReduceFewestSaid : Prop := reduceFewestRow.holds Try.pinned (OpenSpec.ofChange reduceFewestSpec)

/-- ITS FALSE NEIGHBOUR: 'it returns false'. Refute it at one input. -/
def reduceFewestWrong : ChangeSpec := { name := "reduceFewest", fn := fun _ => fun
  | [d1, d2] => { results := [.lit (.bool false)], args := [d1, d2] }
  | _ => none }
def ReduceFewestWrongFalsely : Prop := reduceFewestRow.holds Try.pinned (OpenSpec.ofChange reduceFewestWrong)

/-- 'gnomonlaw25.ReduceFinds': WHATEVER THE INPUT: true; the input reads as it did. -/
def reduceFindsSpec : ChangeSpec := { name := "reduceFinds", fn := fun _ => fun
  | [d1, d2] => { results := [.lit (.bool true)], args := [d1, d2] }
  | _ => none }
def reduceFindsRow : OpenClaim := { program := "ytapfihlgemejiaa", sum := "b9784775aa5f37084150e946ccde696a3b117089051cf5cda59410131b000541", func := "gnomon/gnomonlaw25.ReduceFinds", spec := "reduceFinds", unfollowed := true, recurses := true, apart := false }
def ReduceFindsSaid : Prop := reduceFindsRow.holds Try.pinned (OpenSpec.ofChange reduceFindsSpec)

/-- ITS FALSE NEIGHBOUR: 'it returns false'. Refute it at one input. -/
def reduceFindsWrong : ChangeSpec := { name := "reduceFinds", fn := fun _ => fun
  | [d1, d2] => { results := [.lit (.bool false)], args := [d1, d2] }
  | _ => none }
def ReduceFindsWrongFalsely : Prop := reduceFindsRow.holds Try.pinned (OpenSpec.ofChange reduceFindsWrong)

/-- 'gnomonlaw25.ReduceClasses': WHATEVER THE INPUT: true; the input reads as it did. -/
def reduceClassesSpec : ChangeSpec := { name := "reduceClasses", fn := fun _ => fun
  | [d1, d2] => { results := [.lit (.bool true)], args := [d1, d2] }
  | _ => none }
def reduceClassesRow : OpenClaim := { program := "ytapfihlgemejiaa", sum := "b9784775aa5f37084150e946ccde696a3b117089051cf5cda59410131b000541", func := "gnomon/gnomonlaw25.ReduceClasses", spec := "reduceClasses", unfollowed := true, recurses := true, apart := false }
def ReduceClassesSaid : Prop := reduceClassesRow.holds Try.pinned (OpenSpec.ofChange reduceClassesSpec)

/-- ITS FALSE NEIGHBOUR: 'it returns false'. Refute it at one input. -/
def reduceClassesWrong : ChangeSpec := { name := "reduceClasses", fn := fun _ => fun
  | [d1, d2] => { results := [.lit (.bool false)], args := [d1, d2] }
  | _ => none }
def ReduceClassesWrongFalsely : Prop := reduceClassesRow.holds Try.pinned (OpenSpec.ofChange reduceClassesWrong)

/-- 'gnomonlaw25.ReduceNone': WHATEVER THE INPUT: true; the input reads as it did. -/
def reduceNoneSpec : ChangeSpec := { name := "reduceNone", fn := fun _ => fun
  | [d] => { results := [.lit (.bool true)], args := [d] }
  | _ => none }
def reduceNoneRow : OpenClaim := { program := "ytapfihlgemejiaa", sum := "b9784775aa5f37084150e946ccde696a3b117089051cf5cda59410131b000541", func := "gnomon/gnomonlaw25.ReduceNone", spec := "reduceNone", unfollowed := true, recurses := true, apart := false }
def ReduceNoneSaid : Prop := reduceNoneRow.holds Try.pinned (OpenSpec.ofChange reduceNoneSpec)

/-- ITS FALSE NEIGHBOUR: 'it returns false'. Refute it at one input. -/
def reduceNoneWrong : ChangeSpec := { name := "reduceNone", fn := fun _ => fun
  | [d] => { results := [.lit (.bool false)], args := [d] }
  | _ => none }
def ReduceNoneWrongFalsely : Prop := reduceNoneRow.holds Try.pinned (OpenSpec.ofChange reduceNoneWrong)

/-- 'gnomonlaw25.ReduceReads': WHATEVER THE INPUT: true; the input reads as it did. -/
def reduceReadsSpec : ChangeSpec := { name := "reduceReads", fn := fun _ => fun
  | [d1, d2, d3] => { results := [.lit (.bool true)], args := [d1, d2, d3] }
  | _ => none }
def reduceReadsRow : OpenClaim := { program := "ytapfihlgemejiaa", sum := "b9784775aa5f37084150e946ccde696a3b117089051cf5cda59410131b000541", func := "gnomon/gnomonlaw25.ReduceReads", spec := "reduceReads", unfollowed := true, recurses := true, apart := false }
def ReduceReadsSaid : Prop := reduceReadsRow.holds Try.pinned (OpenSpec.ofChange reduceReadsSpec)

/-- ITS FALSE NEIGHBOUR: 'it returns false'. Refute it at one input. -/
def reduceReadsWrong : ChangeSpec := { name := "reduceReads", fn := fun _ => fun
  | [d1, d2, d3] => { results := [.lit (.bool false)], args := [d1, d2, d3] }
  | _ => none }
def ReduceReadsWrongFalsely : Prop := reduceReadsRow.holds Try.pinned (OpenSpec.ofChange reduceReadsWrong)

/-- 'gnomonlaw25.ReduceBack': WHATEVER THE INPUT: true; the input reads as it did. -/
def reduceBackSpec : ChangeSpec := { name := "reduceBack", fn := fun _ => fun
  | [d1, d2] => { results := [.lit (.bool true)], args := [d1, d2] }
  | _ => none }
def reduceBackRow : OpenClaim := { program := "ytapfihlgemejiaa", sum := "b9784775aa5f37084150e946ccde696a3b117089051cf5cda59410131b000541", func := "gnomon/gnomonlaw25.ReduceBack", spec := "reduceBack", unfollowed := true, recurses := true, apart := false }
def ReduceBackSaid : Prop := reduceBackRow.holds Try.pinned (OpenSpec.ofChange reduceBackSpec)

/-- ITS FALSE NEIGHBOUR: 'it returns false'. Refute it at one input. -/
def reduceBackWrong : ChangeSpec := { name := "reduceBack", fn := fun _ => fun
  | [d1, d2] => { results := [.lit (.bool false)], args := [d1, d2] }
  | _ => none }
def ReduceBackWrongFalsely : Prop := reduceBackRow.holds Try.pinned (OpenSpec.ofChange reduceBackWrong)

/- THE SECOND FORM. 'bulk': how many values and letters a reading holds, each counted each time it is reached (what is shared counts as often as it is met; a slice's spare places count too). A statement '..UptoSaid' is the law's where the arguments, and the package variables that the reading takes, are together of bulk at most 1048576: NARROWER than '..Said'. Prove '..Said' where nothing that the law and all that it calls make is longer than what came in: it says more and counts as full. Else prove '..UptoSaid'. A law counts once. -/
mutual
def uptoBulk {H : Type} : DataW H → Nat
  | .lit (.string bytes) => bytes.length + 1
  | .lit _ => 1
  | .nil => 1
  | .ptr d => uptoBulk d + 1
  | .slice elems spare => uptoBulkAll elems + uptoBulkAll spare + 1
  | .agg parts => uptoBulkAll parts + 1
  | .iface _ d => uptoBulk d + 1
  | .map entries => uptoBulkEntries entries + 1
  | .held _ => 1
def uptoBulkAll {H : Type} : List (DataW H) → Nat
  | [] => 0
  | d :: r => uptoBulk d + uptoBulkAll r
def uptoBulkEntries {H : Type} : List (Lit × DataW H) → Nat
  | [] => 0
  | x :: r => uptoBulkEntry x + uptoBulkEntries r
def uptoBulkEntry {H : Type} : Lit × DataW H → Nat
  | (.string bytes, d) => bytes.length + uptoBulk d + 1
  | (_, d) => uptoBulk d + 1
 end
def uptoSmall : (H : Type) → List (DataW H) → Bool := fun _ ds => decide (uptoBulkAll ds ≤ 1048576)
def OpenSpec.upto (s : _root_.Go.ChangeSpec) : _root_.Go.OpenSpec := { _root_.Go.OpenSpec.ofChange s with cond := some uptoSmall }

/-- 'gnomonlaw16.PassedFull', WHERE WHAT IT READS IS OF BULK AT MOST 1048576: true; the input reads as it did. -/
def passedFullUptoRow : OpenClaim := { program := "ytapfihlgemejiaa", sum := "b9784775aa5f37084150e946ccde696a3b117089051cf5cda59410131b000541", func := "gnomon/gnomonlaw16.PassedFull", spec := "passedFull", apart := false, narrowed := true }
def PassedFullUptoSaid : Prop := passedFullUptoRow.holds Try.pinned (OpenSpec.upto passedFullSpec)

/-- 'gnomonlaw16.PassedCovers', WHERE WHAT IT READS IS OF BULK AT MOST 1048576: true; the input reads as it did. -/
def passedCoversUptoRow : OpenClaim := { program := "ytapfihlgemejiaa", sum := "b9784775aa5f37084150e946ccde696a3b117089051cf5cda59410131b000541", func := "gnomon/gnomonlaw16.PassedCovers", spec := "passedCovers", apart := false, narrowed := true }
def PassedCoversUptoSaid : Prop := passedCoversUptoRow.holds Try.pinned (OpenSpec.upto passedCoversSpec)

/-- 'gnomonlaw16.PassedOnce', WHERE WHAT IT READS IS OF BULK AT MOST 1048576: true; the input reads as it did. -/
def passedOnceUptoRow : OpenClaim := { program := "ytapfihlgemejiaa", sum := "b9784775aa5f37084150e946ccde696a3b117089051cf5cda59410131b000541", func := "gnomon/gnomonlaw16.PassedOnce", spec := "passedOnce", apart := false, narrowed := true }
def PassedOnceUptoSaid : Prop := passedOnceUptoRow.holds Try.pinned (OpenSpec.upto passedOnceSpec)

/-- 'gnomonlaw16.PassedOwn', WHERE WHAT IT READS IS OF BULK AT MOST 1048576: true; the input reads as it did. -/
def passedOwnUptoRow : OpenClaim := { program := "ytapfihlgemejiaa", sum := "b9784775aa5f37084150e946ccde696a3b117089051cf5cda59410131b000541", func := "gnomon/gnomonlaw16.PassedOwn", spec := "passedOwn", apart := false, narrowed := true }
def PassedOwnUptoSaid : Prop := passedOwnUptoRow.holds Try.pinned (OpenSpec.upto passedOwnSpec)

/-- 'gnomontop.TopNumbers', WHERE WHAT IT READS IS OF BULK AT MOST 1048576: true; the input reads as it did. -/
def topNumbersUptoRow : OpenClaim := { program := "ytapfihlgemejiaa", sum := "b9784775aa5f37084150e946ccde696a3b117089051cf5cda59410131b000541", func := "gnomon/gnomontop.TopNumbers", spec := "topNumbers", inPlace := ["math/bits.Sub64", "math/bits.Add64"], unfollowed := true, recurses := true, apart := false, narrowed := true }
def TopNumbersUptoSaid : Prop := topNumbersUptoRow.holds Try.pinned (OpenSpec.upto topNumbersSpec)

/-- 'gnomonlaw16.PassedOrders', WHERE WHAT IT READS IS OF BULK AT MOST 1048576: true; the input reads as it did. -/
def passedOrdersUptoRow : OpenClaim := { program := "ytapfihlgemejiaa", sum := "b9784775aa5f37084150e946ccde696a3b117089051cf5cda59410131b000541", func := "gnomon/gnomonlaw16.PassedOrders", spec := "passedOrders", apart := false, narrowed := true }
def PassedOrdersUptoSaid : Prop := passedOrdersUptoRow.holds Try.pinned (OpenSpec.upto passedOrdersSpec)

/-- 'gnomontop.TopFollows', WHERE WHAT IT READS IS OF BULK AT MOST 1048576: true; the input reads as it did. -/
def topFollowsUptoRow : OpenClaim := { program := "ytapfihlgemejiaa", sum := "b9784775aa5f37084150e946ccde696a3b117089051cf5cda59410131b000541", func := "gnomon/gnomontop.TopFollows", spec := "topFollows", inPlace := ["math/bits.Sub64", "math/bits.Add64"], apart := false, narrowed := true }
def TopFollowsUptoSaid : Prop := topFollowsUptoRow.holds Try.pinned (OpenSpec.upto topFollowsSpec)

/-- 'gnomonlaw16.PassedNone', WHERE WHAT IT READS IS OF BULK AT MOST 1048576: true; the input reads as it did. -/
def passedNoneUptoRow : OpenClaim := { program := "ytapfihlgemejiaa", sum := "b9784775aa5f37084150e946ccde696a3b117089051cf5cda59410131b000541", func := "gnomon/gnomonlaw16.PassedNone", spec := "passedNone", apart := false, narrowed := true }
def PassedNoneUptoSaid : Prop := passedNoneUptoRow.holds Try.pinned (OpenSpec.upto passedNoneSpec)

/-- 'gnomonlaw16.PassedKeeps', WHERE WHAT IT READS IS OF BULK AT MOST 1048576: true; the input reads as it did. -/
def passedKeepsUptoRow : OpenClaim := { program := "ytapfihlgemejiaa", sum := "b9784775aa5f37084150e946ccde696a3b117089051cf5cda59410131b000541", func := "gnomon/gnomonlaw16.PassedKeeps", spec := "passedKeeps", apart := false, narrowed := true }
def PassedKeepsUptoSaid : Prop := passedKeepsUptoRow.holds Try.pinned (OpenSpec.upto passedKeepsSpec)

/-- 'gnomonlaw16.PassedRuns', WHERE WHAT IT READS IS OF BULK AT MOST 1048576: true; the input reads as it did. -/
def passedRunsUptoRow : OpenClaim := { program := "ytapfihlgemejiaa", sum := "b9784775aa5f37084150e946ccde696a3b117089051cf5cda59410131b000541", func := "gnomon/gnomonlaw16.PassedRuns", spec := "passedRuns", apart := false, narrowed := true }
def PassedRunsUptoSaid : Prop := passedRunsUptoRow.holds Try.pinned (OpenSpec.upto passedRunsSpec)

/-- 'gnomonlaw25.ReduceFewest', WHERE WHAT IT READS IS OF BULK AT MOST 1048576: true; the input reads as it did. -/
def reduceFewestUptoRow : OpenClaim := { program := "ytapfihlgemejiaa", sum := "b9784775aa5f37084150e946ccde696a3b117089051cf5cda59410131b000541", func := "gnomon/gnomonlaw25.ReduceFewest", spec := "reduceFewest", unfollowed := true, recurses := true, apart := false, narrowed := true }
def ReduceFewestUptoSaid : Prop := reduceFewestUptoRow.holds Try.pinned (OpenSpec.upto reduceFewestSpec)

/-- 'gnomonlaw25.ReduceFinds', WHERE WHAT IT READS IS OF BULK AT MOST 1048576: true; the input reads as it did. -/
def reduceFindsUptoRow : OpenClaim := { program := "ytapfihlgemejiaa", sum := "b9784775aa5f37084150e946ccde696a3b117089051cf5cda59410131b000541", func := "gnomon/gnomonlaw25.ReduceFinds", spec := "reduceFinds", unfollowed := true, recurses := true, apart := false, narrowed := true }
def ReduceFindsUptoSaid : Prop := reduceFindsUptoRow.holds Try.pinned (OpenSpec.upto reduceFindsSpec)

/-- 'gnomonlaw25.ReduceClasses', WHERE WHAT IT READS IS OF BULK AT MOST 1048576: true; the input reads as it did. -/
def reduceClassesUptoRow : OpenClaim := { program := "ytapfihlgemejiaa", sum := "b9784775aa5f37084150e946ccde696a3b117089051cf5cda59410131b000541", func := "gnomon/gnomonlaw25.ReduceClasses", spec := "reduceClasses", unfollowed := true, recurses := true, apart := false, narrowed := true }
def ReduceClassesUptoSaid : Prop := reduceClassesUptoRow.holds Try.pinned (OpenSpec.upto reduceClassesSpec)

/-- 'gnomonlaw25.ReduceNone', WHERE WHAT IT READS IS OF BULK AT MOST 1048576: true; the input reads as it did. -/
def reduceNoneUptoRow : OpenClaim := { program := "ytapfihlgemejiaa", sum := "b9784775aa5f37084150e946ccde696a3b117089051cf5cda59410131b000541", func := "gnomon/gnomonlaw25.ReduceNone", spec := "reduceNone", unfollowed := true, recurses := true, apart := false, narrowed := true }
def ReduceNoneUptoSaid : Prop := reduceNoneUptoRow.holds Try.pinned (OpenSpec.upto reduceNoneSpec)

/-- 'gnomonlaw25.ReduceReads', WHERE WHAT IT READS IS OF BULK AT MOST 1048576: true; the input reads as it did. -/
def reduceReadsUptoRow : OpenClaim := { program := "ytapfihlgemejiaa", sum := "b9784775aa5f37084150e946ccde696a3b117089051cf5cda59410131b000541", func := "gnomon/gnomonlaw25.ReduceReads", spec := "reduceReads", unfollowed := true, recurses := true, apart := false, narrowed := true }
def ReduceReadsUptoSaid : Prop := reduceReadsUptoRow.holds Try.pinned (OpenSpec.upto reduceReadsSpec)

/-- 'gnomonlaw25.ReduceBack', WHERE WHAT IT READS IS OF BULK AT MOST 1048576: true; the input reads as it did. -/
def reduceBackUptoRow : OpenClaim := { program := "ytapfihlgemejiaa", sum := "b9784775aa5f37084150e946ccde696a3b117089051cf5cda59410131b000541", func := "gnomon/gnomonlaw25.ReduceBack", spec := "reduceBack", unfollowed := true, recurses := true, apart := false, narrowed := true }
def ReduceBackUptoSaid : Prop := reduceBackUptoRow.holds Try.pinned (OpenSpec.upto reduceBackSpec)

end Rows
end Go.Proofs.Ytapfihlgemejiaa
