/-
  No cell of these rows narrows 'for every input' (looked for: loops, veiled, ifaces, maps, wideKeys, modest, calm, conditions, laid).
  DERIVED. THE GIVEN ROWS OF THIS SEAT. 5 by the template 'for every input the law returns true; each argument reads behind the call as it read before'; 0 by the template 'total and deterministic' (their statements: YtckdnkiacnonkaaTotals.lean).
  GIVEN WITH THE SEED: the statements are not yours to turn. If you find one false, say at which input.
  Laid BY PROGRAM, IN A SANDBOX (cutbox-rows.mjs): the forced cells as the released guide's own fill.sh prints them over the translation ba74965ccfbd63f4… (all of the seat's roots in one cut). By AI agents, Wed Nov 11 2026. No macro, syntax, notation, axiom, sorry.
-/
import Derived.Test.YtckdnkiacnonkaaChecked
import GoSem.Claim
import GoSem.ClaimJoined
import GoSem.ClaimMapViews
import Derived.JoinedTies
import Derived.KernelRfl
namespace Go.Proofs.Ytckdnkiacnonkaa
/- THE CELL 'sum', in the pinned program and in every row, IS THE sha256 OF THE DUMP (.gsa) THAT YtckdnkiacnonkaaProg.lean LOADS. Nothing in Lean hashes anything: it is a label: what it is worth is what the hold of that sum in a sandbox is worth. -/
noncomputable def Try.pinned : Pinned := { name := "ytckdnkiacnonkaa", sum := "ba74965ccfbd63f48df7bb9f4e55aa2d577a5ef193351d0067924aefc5ed4c2d", checked := Try.checked }
namespace Rows
def none {H : Type} : Left H := { results := [], args := [] }

/-- 'atticlaw13.ObjectMakes': WHATEVER THE INPUT: true; the input reads as it did. -/
def objectMakesSpec : ChangeSpec := { name := "objectMakes", fn := fun _ => fun
  | [d1, d2, d3] => { results := [.lit (.bool true)], args := [d1, d2, d3] }
  | _ => none }
def objectMakesRow : OpenClaim := { program := "ytckdnkiacnonkaa", sum := "ba74965ccfbd63f48df7bb9f4e55aa2d577a5ef193351d0067924aefc5ed4c2d", func := "attic/atticlaw13.ObjectMakes", spec := "objectMakes", unfollowed := true, recurses := true, apart := false }
def ObjectMakesSaid : Prop := objectMakesRow.holds Try.pinned (OpenSpec.ofChange objectMakesSpec)

/-- ITS FALSE NEIGHBOUR: 'it returns false'. Refute it at one input. -/
def objectMakesWrong : ChangeSpec := { name := "objectMakes", fn := fun _ => fun
  | [d1, d2, d3] => { results := [.lit (.bool false)], args := [d1, d2, d3] }
  | _ => none }
def ObjectMakesWrongFalsely : Prop := objectMakesRow.holds Try.pinned (OpenSpec.ofChange objectMakesWrong)

/-- 'atticlaw13.ObjectData': WHATEVER THE INPUT: true; the input reads as it did. -/
def objectDataSpec : ChangeSpec := { name := "objectData", fn := fun _ => fun
  | [d1, d2, d3] => { results := [.lit (.bool true)], args := [d1, d2, d3] }
  | _ => none }
def objectDataRow : OpenClaim := { program := "ytckdnkiacnonkaa", sum := "ba74965ccfbd63f48df7bb9f4e55aa2d577a5ef193351d0067924aefc5ed4c2d", func := "attic/atticlaw13.ObjectData", spec := "objectData", unfollowed := true, recurses := true, apart := false }
def ObjectDataSaid : Prop := objectDataRow.holds Try.pinned (OpenSpec.ofChange objectDataSpec)

/-- ITS FALSE NEIGHBOUR: 'it returns false'. Refute it at one input. -/
def objectDataWrong : ChangeSpec := { name := "objectData", fn := fun _ => fun
  | [d1, d2, d3] => { results := [.lit (.bool false)], args := [d1, d2, d3] }
  | _ => none }
def ObjectDataWrongFalsely : Prop := objectDataRow.holds Try.pinned (OpenSpec.ofChange objectDataWrong)

/-- 'atticlaw13.ObjectPtrs': WHATEVER THE INPUT: true; the input reads as it did. -/
def objectPtrsSpec : ChangeSpec := { name := "objectPtrs", fn := fun _ => fun
  | [d1, d2, d3] => { results := [.lit (.bool true)], args := [d1, d2, d3] }
  | _ => none }
def objectPtrsRow : OpenClaim := { program := "ytckdnkiacnonkaa", sum := "ba74965ccfbd63f48df7bb9f4e55aa2d577a5ef193351d0067924aefc5ed4c2d", func := "attic/atticlaw13.ObjectPtrs", spec := "objectPtrs", unfollowed := true, recurses := true, apart := false }
def ObjectPtrsSaid : Prop := objectPtrsRow.holds Try.pinned (OpenSpec.ofChange objectPtrsSpec)

/-- ITS FALSE NEIGHBOUR: 'it returns false'. Refute it at one input. -/
def objectPtrsWrong : ChangeSpec := { name := "objectPtrs", fn := fun _ => fun
  | [d1, d2, d3] => { results := [.lit (.bool false)], args := [d1, d2, d3] }
  | _ => none }
def ObjectPtrsWrongFalsely : Prop := objectPtrsRow.holds Try.pinned (OpenSpec.ofChange objectPtrsWrong)

/-- 'atticlaw13.ObjectNew': WHATEVER THE INPUT: true; the input reads as it did. -/
def objectNewSpec : ChangeSpec := { name := "objectNew", fn := fun _ => fun
  | [d1, d2] => { results := [.lit (.bool true)], args := [d1, d2] }
  | _ => none }
def objectNewRow : OpenClaim := { program := "ytckdnkiacnonkaa", sum := "ba74965ccfbd63f48df7bb9f4e55aa2d577a5ef193351d0067924aefc5ed4c2d", func := "attic/atticlaw13.ObjectNew", spec := "objectNew", unfollowed := true, recurses := true, apart := false }
def ObjectNewSaid : Prop := objectNewRow.holds Try.pinned (OpenSpec.ofChange objectNewSpec)

/-- ITS FALSE NEIGHBOUR: 'it returns false'. Refute it at one input. -/
def objectNewWrong : ChangeSpec := { name := "objectNew", fn := fun _ => fun
  | [d1, d2] => { results := [.lit (.bool false)], args := [d1, d2] }
  | _ => none }
def ObjectNewWrongFalsely : Prop := objectNewRow.holds Try.pinned (OpenSpec.ofChange objectNewWrong)

/-- 'atticlaw13.ObjectSets': WHATEVER THE INPUT: true; the input reads as it did. -/
def objectSetsSpec : ChangeSpec := { name := "objectSets", fn := fun _ => fun
  | [d1, d2] => { results := [.lit (.bool true)], args := [d1, d2] }
  | _ => none }
def objectSetsRow : OpenClaim := { program := "ytckdnkiacnonkaa", sum := "ba74965ccfbd63f48df7bb9f4e55aa2d577a5ef193351d0067924aefc5ed4c2d", func := "attic/atticlaw13.ObjectSets", spec := "objectSets", unfollowed := true, recurses := true, apart := false }
def ObjectSetsSaid : Prop := objectSetsRow.holds Try.pinned (OpenSpec.ofChange objectSetsSpec)

/-- ITS FALSE NEIGHBOUR: 'it returns false'. Refute it at one input. -/
def objectSetsWrong : ChangeSpec := { name := "objectSets", fn := fun _ => fun
  | [d1, d2] => { results := [.lit (.bool false)], args := [d1, d2] }
  | _ => none }
def ObjectSetsWrongFalsely : Prop := objectSetsRow.holds Try.pinned (OpenSpec.ofChange objectSetsWrong)

/- THE SECOND FORM. 'bulk': how many values and letters a reading holds, each counted each time it is reached (what is shared counts as often as it is met; a slice's spare places count too). A statement '..UptoSaid' is the law's where the arguments, and the package variables that the reading takes, are together of bulk at most 1048576: NARROWER than '..Said'. Prove '..Said' where nothing that the law and all that it calls make is longer than what came in: it says more and counts as full. Else prove '..UptoSaid'. A law counts once. -/
mutual
def uptoBulk {H : Type} : DataW H → Nat
  | .lit (.string bytes) => bytes.length + 1
  | .lit _ => 1
  | .nil => 1
  | .ptr d => uptoBulk d + 1
  | .slice elems spare => uptoBulkAll elems + uptoBulkAll spare + 1
  | .agg parts => uptoBulkAll parts + 1
  | .iface _ d => uptoBulk d + 1
  | .map entries => uptoBulkEntries entries + 1
  | .held _ => 1
def uptoBulkAll {H : Type} : List (DataW H) → Nat
  | [] => 0
  | d :: r => uptoBulk d + uptoBulkAll r
def uptoBulkEntries {H : Type} : List (Lit × DataW H) → Nat
  | [] => 0
  | x :: r => uptoBulkEntry x + uptoBulkEntries r
def uptoBulkEntry {H : Type} : Lit × DataW H → Nat
  | (.string bytes, d) => bytes.length + uptoBulk d + 1
  | (_, d) => uptoBulk d + 1
 end
def uptoSmall : (H : Type) → List (DataW H) → Bool := fun _ ds => decide (uptoBulkAll ds ≤ 1048576)
def OpenSpec.upto (s : _root_.Go.ChangeSpec) : _root_.Go.OpenSpec := { _root_.Go.OpenSpec.ofChange s with cond := some uptoSmall }

/-- 'atticlaw13.ObjectMakes', WHERE WHAT IT READS IS OF BULK AT MOST 1048576: true; the input reads as it did. -/
def objectMakesUptoRow : OpenClaim := { program := "ytckdnkiacnonkaa", sum := "ba74965ccfbd63f48df7bb9f4e55aa2d577a5ef193351d0067924aefc5ed4c2d", func := "attic/atticlaw13.ObjectMakes", spec := "objectMakes", unfollowed := true, recurses := true, apart := false, narrowed := true }
def ObjectMakesUptoSaid : Prop := objectMakesUptoRow.holds Try.pinned (OpenSpec.upto objectMakesSpec)

/-- 'atticlaw13.ObjectData', WHERE WHAT IT READS IS OF BULK AT MOST 1048576: true; the input reads as it did. -/
def objectDataUptoRow : OpenClaim := { program := "ytckdnkiacnonkaa", sum := "ba74965ccfbd63f48df7bb9f4e55aa2d577a5ef193351d0067924aefc5ed4c2d", func := "attic/atticlaw13.ObjectData", spec := "objectData", unfollowed := true, recurses := true, apart := false, narrowed := true }
def ObjectDataUptoSaid : Prop := objectDataUptoRow.holds Try.pinned (OpenSpec.upto objectDataSpec)

/-- 'atticlaw13.ObjectPtrs', WHERE WHAT IT READS IS OF BULK AT MOST 1048576: true; the input reads as it did. -/
def objectPtrsUptoRow : OpenClaim := { program := "ytckdnkiacnonkaa", sum := "ba74965ccfbd63f48df7bb9f4e55aa2d577a5ef193351d0067924aefc5ed4c2d", func := "attic/atticlaw13.ObjectPtrs", spec := "objectPtrs", unfollowed := true, recurses := true, apart := false, narrowed := true }
def ObjectPtrsUptoSaid : Prop := objectPtrsUptoRow.holds Try.pinned (OpenSpec.upto objectPtrsSpec)

/-- 'atticlaw13.ObjectNew', WHERE WHAT IT READS IS OF BULK AT MOST 1048576: true; the input reads as it did. -/
def objectNewUptoRow : OpenClaim := { program := "ytckdnkiacnonkaa", sum := "ba74965ccfbd63f48df7bb9f4e55aa2d577a5ef193351d0067924aefc5ed4c2d", func := "attic/atticlaw13.ObjectNew", spec := "objectNew", unfollowed := true, recurses := true, apart := false, narrowed := true }
def ObjectNewUptoSaid : Prop := objectNewUptoRow.holds Try.pinned (OpenSpec.upto objectNewSpec)

/-- 'atticlaw13.ObjectSets', WHERE WHAT IT READS IS OF BULK AT MOST 1048576: true; the input reads as it did. -/
def objectSetsUptoRow : OpenClaim := { program := "ytckdnkiacnonkaa", sum := "ba74965ccfbd63f48df7bb9f4e55aa2d577a5ef193351d0067924aefc5ed4c2d", func := "attic/atticlaw13.ObjectSets", spec := "objectSets", unfollowed := true, recurses := true, apart := false, narrowed := true }
def ObjectSetsUptoSaid : Prop := objectSetsUptoRow.holds Try.pinned (OpenSpec.upto objectSetsSpec)

end Rows
end Go.Proofs.Ytckdnkiacnonkaa
