/-
  No cell of these rows narrows 'for every input' (looked for: loops, veiled, ifaces, maps, wideKeys, modest, calm, conditions, laid).
  DERIVED. THE GIVEN ROWS OF THIS SEAT. 6 by the template 'for every input the law returns true; each argument reads behind the call as it read before'; 0 by the template 'total and deterministic' (their statements: YtgcgkhgmmphggaaTotals.lean).
  GIVEN WITH THE SEED: the statements are not yours to turn. If you find one false, say at which input.
  Laid BY PROGRAM, IN A SANDBOX (cutbox-rows.mjs): the forced cells as the released guide's own fill.sh prints them over the translation 7449ae53f889bd91… (all of the seat's roots in one cut). By AI agents, Wed Nov 11 2026. No macro, syntax, notation, axiom, sorry.
-/
import Derived.Test.YtgcgkhgmmphggaaChecked
import GoSem.Claim
import GoSem.ClaimJoined
import GoSem.ClaimMapViews
import Derived.JoinedTies
import Derived.KernelRfl
namespace Go.Proofs.Ytgcgkhgmmphggaa
/- THE CELL 'sum', in the pinned program and in every row, IS THE sha256 OF THE DUMP (.gsa) THAT YtgcgkhgmmphggaaProg.lean LOADS. Nothing in Lean hashes anything: it is a label: what it is worth is what the hold of that sum in a sandbox is worth. -/
noncomputable def Try.pinned : Pinned := { name := "ytgcgkhgmmphggaa", sum := "7449ae53f889bd916371bd2f71bd8a28b98418d013fb1b5db3b85e4a761b23a8", checked := Try.checked }
namespace Rows
def none {H : Type} : Left H := { results := [], args := [] }

/-- 'atticlaw11.ClassShapes': WHATEVER THE INPUT: true; the input reads as it did. -/
def classShapesSpec : ChangeSpec := { name := "classShapes", fn := fun _ => fun
  | [d] => { results := [.lit (.bool true)], args := [d] }
  | _ => none }
def classShapesRow : OpenClaim := { program := "ytgcgkhgmmphggaa", sum := "7449ae53f889bd916371bd2f71bd8a28b98418d013fb1b5db3b85e4a761b23a8", func := "attic/atticlaw11.ClassShapes", spec := "classShapes", unfollowed := true, recurses := true, apart := false }
def ClassShapesSaid : Prop := classShapesRow.holds Try.pinned (OpenSpec.ofChange classShapesSpec)

/-- ITS FALSE NEIGHBOUR: 'it returns false'. Refute it at one input. -/
def classShapesWrong : ChangeSpec := { name := "classShapes", fn := fun _ => fun
  | [d] => { results := [.lit (.bool false)], args := [d] }
  | _ => none }
def ClassShapesWrongFalsely : Prop := classShapesRow.holds Try.pinned (OpenSpec.ofChange classShapesWrong)

/-- 'atticlaw11.ClassSlots': WHATEVER THE INPUT: true; the input reads as it did. -/
def classSlotsSpec : ChangeSpec := { name := "classSlots", fn := fun _ => fun
  | [d1, d2] => { results := [.lit (.bool true)], args := [d1, d2] }
  | _ => none }
def classSlotsRow : OpenClaim := { program := "ytgcgkhgmmphggaa", sum := "7449ae53f889bd916371bd2f71bd8a28b98418d013fb1b5db3b85e4a761b23a8", func := "attic/atticlaw11.ClassSlots", spec := "classSlots", unfollowed := true, recurses := true, apart := false }
def ClassSlotsSaid : Prop := classSlotsRow.holds Try.pinned (OpenSpec.ofChange classSlotsSpec)

/-- ITS FALSE NEIGHBOUR: 'it returns false'. Refute it at one input. -/
def classSlotsWrong : ChangeSpec := { name := "classSlots", fn := fun _ => fun
  | [d1, d2] => { results := [.lit (.bool false)], args := [d1, d2] }
  | _ => none }
def ClassSlotsWrongFalsely : Prop := classSlotsRow.holds Try.pinned (OpenSpec.ofChange classSlotsWrong)

/-- 'atticlaw11.ClassPlaces': WHATEVER THE INPUT: true; the input reads as it did. -/
def classPlacesSpec : ChangeSpec := { name := "classPlaces", fn := fun _ => fun
  | [d1, d2] => { results := [.lit (.bool true)], args := [d1, d2] }
  | _ => none }
def classPlacesRow : OpenClaim := { program := "ytgcgkhgmmphggaa", sum := "7449ae53f889bd916371bd2f71bd8a28b98418d013fb1b5db3b85e4a761b23a8", func := "attic/atticlaw11.ClassPlaces", spec := "classPlaces", unfollowed := true, recurses := true, apart := false }
def ClassPlacesSaid : Prop := classPlacesRow.holds Try.pinned (OpenSpec.ofChange classPlacesSpec)

/-- ITS FALSE NEIGHBOUR: 'it returns false'. Refute it at one input. -/
def classPlacesWrong : ChangeSpec := { name := "classPlaces", fn := fun _ => fun
  | [d1, d2] => { results := [.lit (.bool false)], args := [d1, d2] }
  | _ => none }
def ClassPlacesWrongFalsely : Prop := classPlacesRow.holds Try.pinned (OpenSpec.ofChange classPlacesWrong)

/-- 'atticlaw11.ClassLeast': WHATEVER THE INPUT: true; the input reads as it did. -/
def classLeastSpec : ChangeSpec := { name := "classLeast", fn := fun _ => fun
  | [d] => { results := [.lit (.bool true)], args := [d] }
  | _ => none }
def classLeastRow : OpenClaim := { program := "ytgcgkhgmmphggaa", sum := "7449ae53f889bd916371bd2f71bd8a28b98418d013fb1b5db3b85e4a761b23a8", func := "attic/atticlaw11.ClassLeast", spec := "classLeast", unfollowed := true, recurses := true, apart := false }
def ClassLeastSaid : Prop := classLeastRow.holds Try.pinned (OpenSpec.ofChange classLeastSpec)

/-- ITS FALSE NEIGHBOUR: 'it returns false'. Refute it at one input. -/
def classLeastWrong : ChangeSpec := { name := "classLeast", fn := fun _ => fun
  | [d] => { results := [.lit (.bool false)], args := [d] }
  | _ => none }
def ClassLeastWrongFalsely : Prop := classLeastRow.holds Try.pinned (OpenSpec.ofChange classLeastWrong)

/-- 'atticlaw11.ClassBeside': WHATEVER THE INPUT: true; the input reads as it did. -/
def classBesideSpec : ChangeSpec := { name := "classBeside", fn := fun _ => fun
  | [d] => { results := [.lit (.bool true)], args := [d] }
  | _ => none }
def classBesideRow : OpenClaim := { program := "ytgcgkhgmmphggaa", sum := "7449ae53f889bd916371bd2f71bd8a28b98418d013fb1b5db3b85e4a761b23a8", func := "attic/atticlaw11.ClassBeside", spec := "classBeside", unfollowed := true, recurses := true, apart := false }
def ClassBesideSaid : Prop := classBesideRow.holds Try.pinned (OpenSpec.ofChange classBesideSpec)

/-- ITS FALSE NEIGHBOUR: 'it returns false'. Refute it at one input. -/
def classBesideWrong : ChangeSpec := { name := "classBeside", fn := fun _ => fun
  | [d] => { results := [.lit (.bool false)], args := [d] }
  | _ => none }
def ClassBesideWrongFalsely : Prop := classBesideRow.holds Try.pinned (OpenSpec.ofChange classBesideWrong)

/-- 'atticlaw11.ClassMore': WHATEVER THE INPUT: true; the input reads as it did. -/
def classMoreSpec : ChangeSpec := { name := "classMore", fn := fun _ => fun
  | [d1, d2, d3] => { results := [.lit (.bool true)], args := [d1, d2, d3] }
  | _ => none }
def classMoreRow : OpenClaim := { program := "ytgcgkhgmmphggaa", sum := "7449ae53f889bd916371bd2f71bd8a28b98418d013fb1b5db3b85e4a761b23a8", func := "attic/atticlaw11.ClassMore", spec := "classMore", unfollowed := true, recurses := true, apart := false }
def ClassMoreSaid : Prop := classMoreRow.holds Try.pinned (OpenSpec.ofChange classMoreSpec)

/-- ITS FALSE NEIGHBOUR: 'it returns false'. Refute it at one input. -/
def classMoreWrong : ChangeSpec := { name := "classMore", fn := fun _ => fun
  | [d1, d2, d3] => { results := [.lit (.bool false)], args := [d1, d2, d3] }
  | _ => none }
def ClassMoreWrongFalsely : Prop := classMoreRow.holds Try.pinned (OpenSpec.ofChange classMoreWrong)

/- THE SECOND FORM. 'bulk': how many values and letters a reading holds, each counted each time it is reached (what is shared counts as often as it is met; a slice's spare places count too). A statement '..UptoSaid' is the law's where the arguments, and the package variables that the reading takes, are together of bulk at most 1048576: NARROWER than '..Said'. Prove '..Said' where nothing that the law and all that it calls make is longer than what came in: it says more and counts as full. Else prove '..UptoSaid'. A law counts once. -/
mutual
def uptoBulk {H : Type} : DataW H → Nat
  | .lit (.string bytes) => bytes.length + 1
  | .lit _ => 1
  | .nil => 1
  | .ptr d => uptoBulk d + 1
  | .slice elems spare => uptoBulkAll elems + uptoBulkAll spare + 1
  | .agg parts => uptoBulkAll parts + 1
  | .iface _ d => uptoBulk d + 1
  | .map entries => uptoBulkEntries entries + 1
  | .held _ => 1
def uptoBulkAll {H : Type} : List (DataW H) → Nat
  | [] => 0
  | d :: r => uptoBulk d + uptoBulkAll r
def uptoBulkEntries {H : Type} : List (Lit × DataW H) → Nat
  | [] => 0
  | x :: r => uptoBulkEntry x + uptoBulkEntries r
def uptoBulkEntry {H : Type} : Lit × DataW H → Nat
  | (.string bytes, d) => bytes.length + uptoBulk d + 1
  | (_, d) => uptoBulk d + 1
 end
def uptoSmall : (H : Type) → List (DataW H) → Bool := fun _ ds => decide (uptoBulkAll ds ≤ 1048576)
def OpenSpec.upto (s : _root_.Go.ChangeSpec) : _root_.Go.OpenSpec := { _root_.Go.OpenSpec.ofChange s with cond := some uptoSmall }

/-- 'atticlaw11.ClassShapes', WHERE WHAT IT READS IS OF BULK AT MOST 1048576: true; the input reads as it did. -/
def classShapesUptoRow : OpenClaim := { program := "ytgcgkhgmmphggaa", sum := "7449ae53f889bd916371bd2f71bd8a28b98418d013fb1b5db3b85e4a761b23a8", func := "attic/atticlaw11.ClassShapes", spec := "classShapes", unfollowed := true, recurses := true, apart := false, narrowed := true }
def ClassShapesUptoSaid : Prop := classShapesUptoRow.holds Try.pinned (OpenSpec.upto classShapesSpec)

/-- 'atticlaw11.ClassSlots', WHERE WHAT IT READS IS OF BULK AT MOST 1048576: true; the input reads as it did. -/
def classSlotsUptoRow : OpenClaim := { program := "ytgcgkhgmmphggaa", sum := "7449ae53f889bd916371bd2f71bd8a28b98418d013fb1b5db3b85e4a761b23a8", func := "attic/atticlaw11.ClassSlots", spec := "classSlots", unfollowed := true, recurses := true, apart := false, narrowed := true }
def ClassSlotsUptoSaid : Prop := classSlotsUptoRow.holds Try.pinned (OpenSpec.upto classSlotsSpec)

/-- 'atticlaw11.ClassPlaces', WHERE WHAT IT READS IS OF BULK AT MOST 1048576: true; the input reads as it did. -/
def classPlacesUptoRow : OpenClaim := { program := "ytgcgkhgmmphggaa", sum := "7449ae53f889bd916371bd2f71bd8a28b98418d013fb1b5db3b85e4a761b23a8", func := "attic/atticlaw11.ClassPlaces", spec := "classPlaces", unfollowed := true, recurses := true, apart := false, narrowed := true }
def ClassPlacesUptoSaid : Prop := classPlacesUptoRow.holds Try.pinned (OpenSpec.upto classPlacesSpec)

/-- 'atticlaw11.ClassLeast', WHERE WHAT IT READS IS OF BULK AT MOST 1048576: true; the input reads as it did. -/
def classLeastUptoRow : OpenClaim := { program := "ytgcgkhgmmphggaa", sum := "7449ae53f889bd916371bd2f71bd8a28b98418d013fb1b5db3b85e4a761b23a8", func := "attic/atticlaw11.ClassLeast", spec := "classLeast", unfollowed := true, recurses := true, apart := false, narrowed := true }
def ClassLeastUptoSaid : Prop := classLeastUptoRow.holds Try.pinned (OpenSpec.upto classLeastSpec)

/-- 'atticlaw11.ClassBeside', WHERE WHAT IT READS IS OF BULK AT MOST 1048576: true; the input reads as it did. -/
def classBesideUptoRow : OpenClaim := { program := "ytgcgkhgmmphggaa", sum := "7449ae53f889bd916371bd2f71bd8a28b98418d013fb1b5db3b85e4a761b23a8", func := "attic/atticlaw11.ClassBeside", spec := "classBeside", unfollowed := true, recurses := true, apart := false, narrowed := true }
def ClassBesideUptoSaid : Prop := classBesideUptoRow.holds Try.pinned (OpenSpec.upto classBesideSpec)

/-- 'atticlaw11.ClassMore', WHERE WHAT IT READS IS OF BULK AT MOST 1048576: true; the input reads as it did. -/
def classMoreUptoRow : OpenClaim := { program := "ytgcgkhgmmphggaa", sum := "7449ae53f889bd916371bd2f71bd8a28b98418d013fb1b5db3b85e4a761b23a8", func := "attic/atticlaw11.ClassMore", spec := "classMore", unfollowed := true, recurses := true, apart := false, narrowed := true }
def ClassMoreUptoSaid : Prop := classMoreUptoRow.holds Try.pinned (OpenSpec.upto classMoreSpec)

end Rows
end Go.Proofs.Ytgcgkhgmmphggaa
