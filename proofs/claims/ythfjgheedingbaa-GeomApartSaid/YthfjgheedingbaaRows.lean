/-
  No cell of these rows narrows 'for every input' (looked for: loops, veiled, ifaces, maps, wideKeys, modest, calm, conditions, laid).
  DERIVED. THE GIVEN ROWS OF THIS SEAT. 4 by the template 'for every input the law returns true; each argument reads behind the call as it read before'; 0 by the template 'total and deterministic' (their statements: YthfjgheedingbaaTotals.lean).
  GIVEN WITH THE SEED: the statements are not yours to turn. If you find one false, say at which input.
  Laid BY PROGRAM, IN A SANDBOX (cutbox-rows.mjs): the forced cells as the released guide's own fill.sh prints them over the translation 5529da32066dc240… (all of the seat's roots in one cut). By AI agents, Wed Nov 11 2026. No macro, syntax, notation, axiom, sorry.
-/
import Derived.Test.YthfjgheedingbaaChecked
import GoSem.Claim
import GoSem.ClaimJoined
import GoSem.ClaimMapViews
import Derived.JoinedTies
import Derived.KernelRfl
namespace Go.Proofs.Ythfjgheedingbaa
/- THE CELL 'sum', in the pinned program and in every row, IS THE sha256 OF THE DUMP (.gsa) THAT YthfjgheedingbaaProg.lean LOADS. Nothing in Lean hashes anything: it is a label: what it is worth is what the hold of that sum in a sandbox is worth. -/
noncomputable def Try.pinned : Pinned := { name := "ythfjgheedingbaa", sum := "5529da32066dc240bba2213613d2aafe3ca70170f9b6558ff21aae15253fa769", checked := Try.checked }
namespace Rows
def none {H : Type} : Left H := { results := [], args := [] }

/-- 'atticlaw04.GeomPlans': WHATEVER THE INPUT: true; the input reads as it did. -/
def geomPlansSpec : ChangeSpec := { name := "geomPlans", fn := fun _ => fun
  | [d] => { results := [.lit (.bool true)], args := [d] }
  | _ => none }
def geomPlansRow : OpenClaim := { program := "ythfjgheedingbaa", sum := "5529da32066dc240bba2213613d2aafe3ca70170f9b6558ff21aae15253fa769", func := "attic/atticlaw04.GeomPlans", spec := "geomPlans", plainKeys := false, apart := false }
def GeomPlansSaid : Prop := geomPlansRow.holds Try.pinned (OpenSpec.ofChange geomPlansSpec)

/-- ITS FALSE NEIGHBOUR: 'it returns false'. Refute it at one input. -/
def geomPlansWrong : ChangeSpec := { name := "geomPlans", fn := fun _ => fun
  | [d] => { results := [.lit (.bool false)], args := [d] }
  | _ => none }
def GeomPlansWrongFalsely : Prop := geomPlansRow.holds Try.pinned (OpenSpec.ofChange geomPlansWrong)

/-- 'atticlaw04.GeomWhere': WHATEVER THE INPUT: true; the input reads as it did. -/
def geomWhereSpec : ChangeSpec := { name := "geomWhere", fn := fun _ => fun
  | [d1, d2] => { results := [.lit (.bool true)], args := [d1, d2] }
  | _ => none }
def geomWhereRow : OpenClaim := { program := "ythfjgheedingbaa", sum := "5529da32066dc240bba2213613d2aafe3ca70170f9b6558ff21aae15253fa769", func := "attic/atticlaw04.GeomWhere", spec := "geomWhere", plainKeys := false, apart := false }
def GeomWhereSaid : Prop := geomWhereRow.holds Try.pinned (OpenSpec.ofChange geomWhereSpec)

/-- ITS FALSE NEIGHBOUR: 'it returns false'. Refute it at one input. -/
def geomWhereWrong : ChangeSpec := { name := "geomWhere", fn := fun _ => fun
  | [d1, d2] => { results := [.lit (.bool false)], args := [d1, d2] }
  | _ => none }
def GeomWhereWrongFalsely : Prop := geomWhereRow.holds Try.pinned (OpenSpec.ofChange geomWhereWrong)

/-- 'atticlaw04.GeomWhole': WHATEVER THE INPUT: true; the input reads as it did. -/
def geomWholeSpec : ChangeSpec := { name := "geomWhole", fn := fun _ => fun
  | [d] => { results := [.lit (.bool true)], args := [d] }
  | _ => none }
def geomWholeRow : OpenClaim := { program := "ythfjgheedingbaa", sum := "5529da32066dc240bba2213613d2aafe3ca70170f9b6558ff21aae15253fa769", func := "attic/atticlaw04.GeomWhole", spec := "geomWhole", plainKeys := false, apart := false }
def GeomWholeSaid : Prop := geomWholeRow.holds Try.pinned (OpenSpec.ofChange geomWholeSpec)

/-- ITS FALSE NEIGHBOUR: 'it returns false'. Refute it at one input. -/
def geomWholeWrong : ChangeSpec := { name := "geomWhole", fn := fun _ => fun
  | [d] => { results := [.lit (.bool false)], args := [d] }
  | _ => none }
def GeomWholeWrongFalsely : Prop := geomWholeRow.holds Try.pinned (OpenSpec.ofChange geomWholeWrong)

/-- 'atticlaw04.GeomApart': WHATEVER THE INPUT: true; the input reads as it did. -/
def geomApartSpec : ChangeSpec := { name := "geomApart", fn := fun _ => fun
  | [d1, d2, d3, d4, d5] => { results := [.lit (.bool true)], args := [d1, d2, d3, d4, d5] }
  | _ => none }
def geomApartRow : OpenClaim := { program := "ythfjgheedingbaa", sum := "5529da32066dc240bba2213613d2aafe3ca70170f9b6558ff21aae15253fa769", func := "attic/atticlaw04.GeomApart", spec := "geomApart", unfollowed := true, recurses := true, plainKeys := false, apart := false }
def GeomApartSaid : Prop := geomApartRow.holds Try.pinned (OpenSpec.ofChange geomApartSpec)

/-- ITS FALSE NEIGHBOUR: 'it returns false'. Refute it at one input. -/
def geomApartWrong : ChangeSpec := { name := "geomApart", fn := fun _ => fun
  | [d1, d2, d3, d4, d5] => { results := [.lit (.bool false)], args := [d1, d2, d3, d4, d5] }
  | _ => none }
def GeomApartWrongFalsely : Prop := geomApartRow.holds Try.pinned (OpenSpec.ofChange geomApartWrong)

/- THE SECOND FORM. 'bulk': how many values and letters a reading holds, each counted each time it is reached (what is shared counts as often as it is met; a slice's spare places count too). A statement '..UptoSaid' is the law's where the arguments, and the package variables that the reading takes, are together of bulk at most 1048576: NARROWER than '..Said'. Prove '..Said' where nothing that the law and all that it calls make is longer than what came in: it says more and counts as full. Else prove '..UptoSaid'. A law counts once. -/
mutual
def uptoBulk {H : Type} : DataW H → Nat
  | .lit (.string bytes) => bytes.length + 1
  | .lit _ => 1
  | .nil => 1
  | .ptr d => uptoBulk d + 1
  | .slice elems spare => uptoBulkAll elems + uptoBulkAll spare + 1
  | .agg parts => uptoBulkAll parts + 1
  | .iface _ d => uptoBulk d + 1
  | .map entries => uptoBulkEntries entries + 1
  | .held _ => 1
def uptoBulkAll {H : Type} : List (DataW H) → Nat
  | [] => 0
  | d :: r => uptoBulk d + uptoBulkAll r
def uptoBulkEntries {H : Type} : List (Lit × DataW H) → Nat
  | [] => 0
  | x :: r => uptoBulkEntry x + uptoBulkEntries r
def uptoBulkEntry {H : Type} : Lit × DataW H → Nat
  | (.string bytes, d) => bytes.length + uptoBulk d + 1
  | (_, d) => uptoBulk d + 1
 end
def uptoSmall : (H : Type) → List (DataW H) → Bool := fun _ ds => decide (uptoBulkAll ds ≤ 1048576)
def OpenSpec.upto (s : _root_.Go.ChangeSpec) : _root_.Go.OpenSpec := { _root_.Go.OpenSpec.ofChange s with cond := some uptoSmall }

/-- 'atticlaw04.GeomPlans', WHERE WHAT IT READS IS OF BULK AT MOST 1048576: true; the input reads as it did. -/
def geomPlansUptoRow : OpenClaim := { program := "ythfjgheedingbaa", sum := "5529da32066dc240bba2213613d2aafe3ca70170f9b6558ff21aae15253fa769", func := "attic/atticlaw04.GeomPlans", spec := "geomPlans", plainKeys := false, apart := false, narrowed := true }
def GeomPlansUptoSaid : Prop := geomPlansUptoRow.holds Try.pinned (OpenSpec.upto geomPlansSpec)

/-- 'atticlaw04.GeomWhere', WHERE WHAT IT READS IS OF BULK AT MOST 1048576: true; the input reads as it did. -/
def geomWhereUptoRow : OpenClaim := { program := "ythfjgheedingbaa", sum := "5529da32066dc240bba2213613d2aafe3ca70170f9b6558ff21aae15253fa769", func := "attic/atticlaw04.GeomWhere", spec := "geomWhere", plainKeys := false, apart := false, narrowed := true }
def GeomWhereUptoSaid : Prop := geomWhereUptoRow.holds Try.pinned (OpenSpec.upto geomWhereSpec)

/-- 'atticlaw04.GeomWhole', WHERE WHAT IT READS IS OF BULK AT MOST 1048576: true; the input reads as it did. -/
def geomWholeUptoRow : OpenClaim := { program := "ythfjgheedingbaa", sum := "5529da32066dc240bba2213613d2aafe3ca70170f9b6558ff21aae15253fa769", func := "attic/atticlaw04.GeomWhole", spec := "geomWhole", plainKeys := false, apart := false, narrowed := true }
def GeomWholeUptoSaid : Prop := geomWholeUptoRow.holds Try.pinned (OpenSpec.upto geomWholeSpec)

/-- 'atticlaw04.GeomApart', WHERE WHAT IT READS IS OF BULK AT MOST 1048576: true; the input reads as it did. -/
def geomApartUptoRow : OpenClaim := { program := "ythfjgheedingbaa", sum := "5529da32066dc240bba2213613d2aafe3ca70170f9b6558ff21aae15253fa769", func := "attic/atticlaw04.GeomApart", spec := "geomApart", unfollowed := true, recurses := true, plainKeys := false, apart := false, narrowed := true }
def GeomApartUptoSaid : Prop := geomApartUptoRow.holds Try.pinned (OpenSpec.upto geomApartSpec)

end Rows
end Go.Proofs.Ythfjgheedingbaa
