/-
  No cell of these rows narrows 'for every input' (looked for: loops, veiled, ifaces, maps, wideKeys, modest, calm, conditions, laid).
  DERIVED. THE GIVEN ROWS OF THIS SEAT. 8 by the template 'for every input the law returns true; each argument reads behind the call as it read before'; 0 by the template 'total and deterministic' (their statements: YtnhihiadmllnkaaTotals.lean).
  GIVEN WITH THE SEED: the statements are not yours to turn. If you find one false, say at which input.
  Laid BY PROGRAM, IN A SANDBOX (cutbox-rows.mjs): the forced cells as the released guide's own fill.sh prints them over the translation 220d7a9171edc8ed… (all of the seat's roots in one cut). By AI agents, Wed Nov 11 2026. No macro, syntax, notation, axiom, sorry.
-/
import Derived.Test.YtnhihiadmllnkaaChecked
import GoSem.Claim
import GoSem.ClaimJoined
import GoSem.ClaimMapViews
import Derived.JoinedTies
import Derived.KernelRfl
namespace Go.Proofs.Ytnhihiadmllnkaa
/- THE CELL 'sum', in the pinned program and in every row, IS THE sha256 OF THE DUMP (.gsa) THAT YtnhihiadmllnkaaProg.lean LOADS. Nothing in Lean hashes anything: it is a label: what it is worth is what the hold of that sum in a sandbox is worth. -/
noncomputable def Try.pinned : Pinned := { name := "ytnhihiadmllnkaa", sum := "220d7a9171edc8ede694bcc3b2507309aceb05a9c9ed5a3d16de606805cac737", checked := Try.checked }
namespace Rows
def none {H : Type} : Left H := { results := [], args := [] }

/-- 'atticlaw01.WordLinear': WHATEVER THE INPUT: true; the input reads as it did. -/
def wordLinearSpec : ChangeSpec := { name := "wordLinear", fn := fun _ => fun
  | [d1, d2, d3] => { results := [.lit (.bool true)], args := [d1, d2, d3] }
  | _ => none }
def wordLinearRow : OpenClaim := { program := "ytnhihiadmllnkaa", sum := "220d7a9171edc8ede694bcc3b2507309aceb05a9c9ed5a3d16de606805cac737", func := "attic/atticlaw01.WordLinear", spec := "wordLinear", apart := false }
def WordLinearSaid : Prop := wordLinearRow.holds Try.pinned (OpenSpec.ofChange wordLinearSpec)

/-- ITS FALSE NEIGHBOUR: 'it returns false'. Refute it at one input. -/
def wordLinearWrong : ChangeSpec := { name := "wordLinear", fn := fun _ => fun
  | [d1, d2, d3] => { results := [.lit (.bool false)], args := [d1, d2, d3] }
  | _ => none }
def WordLinearWrongFalsely : Prop := wordLinearRow.holds Try.pinned (OpenSpec.ofChange wordLinearWrong)

/-- 'atticlaw01.WordBurst': WHATEVER THE INPUT: true; the input reads as it did. -/
def wordBurstSpec : ChangeSpec := { name := "wordBurst", fn := fun _ => fun
  | [d1, d2, d3] => { results := [.lit (.bool true)], args := [d1, d2, d3] }
  | _ => none }
def wordBurstRow : OpenClaim := { program := "ytnhihiadmllnkaa", sum := "220d7a9171edc8ede694bcc3b2507309aceb05a9c9ed5a3d16de606805cac737", func := "attic/atticlaw01.WordBurst", spec := "wordBurst", apart := false }
def WordBurstSaid : Prop := wordBurstRow.holds Try.pinned (OpenSpec.ofChange wordBurstSpec)

/-- ITS FALSE NEIGHBOUR: 'it returns false'. Refute it at one input. -/
def wordBurstWrong : ChangeSpec := { name := "wordBurst", fn := fun _ => fun
  | [d1, d2, d3] => { results := [.lit (.bool false)], args := [d1, d2, d3] }
  | _ => none }
def WordBurstWrongFalsely : Prop := wordBurstRow.holds Try.pinned (OpenSpec.ofChange wordBurstWrong)

/-- 'atticlaw01.WordNums': WHATEVER THE INPUT: true; the input reads as it did. -/
def wordNumsSpec : ChangeSpec := { name := "wordNums", fn := fun _ => fun
  | [d1, d2, d3] => { results := [.lit (.bool true)], args := [d1, d2, d3] }
  | _ => none }
def wordNumsRow : OpenClaim := { program := "ytnhihiadmllnkaa", sum := "220d7a9171edc8ede694bcc3b2507309aceb05a9c9ed5a3d16de606805cac737", func := "attic/atticlaw01.WordNums", spec := "wordNums", apart := false }
def WordNumsSaid : Prop := wordNumsRow.holds Try.pinned (OpenSpec.ofChange wordNumsSpec)

/-- ITS FALSE NEIGHBOUR: 'it returns false'. Refute it at one input. -/
def wordNumsWrong : ChangeSpec := { name := "wordNums", fn := fun _ => fun
  | [d1, d2, d3] => { results := [.lit (.bool false)], args := [d1, d2, d3] }
  | _ => none }
def WordNumsWrongFalsely : Prop := wordNumsRow.holds Try.pinned (OpenSpec.ofChange wordNumsWrong)

/-- 'atticlaw01.WordUvars': WHATEVER THE INPUT: true; the input reads as it did. -/
def wordUvarsSpec : ChangeSpec := { name := "wordUvars", fn := fun _ => fun
  | [d1, d2] => { results := [.lit (.bool true)], args := [d1, d2] }
  | _ => none }
def wordUvarsRow : OpenClaim := { program := "ytnhihiadmllnkaa", sum := "220d7a9171edc8ede694bcc3b2507309aceb05a9c9ed5a3d16de606805cac737", func := "attic/atticlaw01.WordUvars", spec := "wordUvars", apart := false }
def WordUvarsSaid : Prop := wordUvarsRow.holds Try.pinned (OpenSpec.ofChange wordUvarsSpec)

/-- ITS FALSE NEIGHBOUR: 'it returns false'. Refute it at one input. -/
def wordUvarsWrong : ChangeSpec := { name := "wordUvars", fn := fun _ => fun
  | [d1, d2] => { results := [.lit (.bool false)], args := [d1, d2] }
  | _ => none }
def WordUvarsWrongFalsely : Prop := wordUvarsRow.holds Try.pinned (OpenSpec.ofChange wordUvarsWrong)

/-- 'atticlaw01.WordSums': WHATEVER THE INPUT: true; the input reads as it did. -/
def wordSumsSpec : ChangeSpec := { name := "wordSums", fn := fun _ => fun
  | [d] => { results := [.lit (.bool true)], args := [d] }
  | _ => none }
def wordSumsRow : OpenClaim := { program := "ytnhihiadmllnkaa", sum := "220d7a9171edc8ede694bcc3b2507309aceb05a9c9ed5a3d16de606805cac737", func := "attic/atticlaw01.WordSums", spec := "wordSums", apart := false }
def WordSumsSaid : Prop := wordSumsRow.holds Try.pinned (OpenSpec.ofChange wordSumsSpec)

/-- ITS FALSE NEIGHBOUR: 'it returns false'. Refute it at one input. -/
def wordSumsWrong : ChangeSpec := { name := "wordSums", fn := fun _ => fun
  | [d] => { results := [.lit (.bool false)], args := [d] }
  | _ => none }
def WordSumsWrongFalsely : Prop := wordSumsRow.holds Try.pinned (OpenSpec.ofChange wordSumsWrong)

/-- 'atticlaw01.WordBack': WHATEVER THE INPUT: true; the input reads as it did. -/
def wordBackSpec : ChangeSpec := { name := "wordBack", fn := fun _ => fun
  | [d1, d2, d3] => { results := [.lit (.bool true)], args := [d1, d2, d3] }
  | _ => none }
def wordBackRow : OpenClaim := { program := "ytnhihiadmllnkaa", sum := "220d7a9171edc8ede694bcc3b2507309aceb05a9c9ed5a3d16de606805cac737", func := "attic/atticlaw01.WordBack", spec := "wordBack", apart := false }
def WordBackSaid : Prop := wordBackRow.holds Try.pinned (OpenSpec.ofChange wordBackSpec)

/-- ITS FALSE NEIGHBOUR: 'it returns false'. Refute it at one input. -/
def wordBackWrong : ChangeSpec := { name := "wordBack", fn := fun _ => fun
  | [d1, d2, d3] => { results := [.lit (.bool false)], args := [d1, d2, d3] }
  | _ => none }
def WordBackWrongFalsely : Prop := wordBackRow.holds Try.pinned (OpenSpec.ofChange wordBackWrong)

/-- 'atticlaw01.WordReads': WHATEVER THE INPUT: true; the input reads as it did. -/
def wordReadsSpec : ChangeSpec := { name := "wordReads", fn := fun _ => fun
  | [d1, d2] => { results := [.lit (.bool true)], args := [d1, d2] }
  | _ => none }
def wordReadsRow : OpenClaim := { program := "ytnhihiadmllnkaa", sum := "220d7a9171edc8ede694bcc3b2507309aceb05a9c9ed5a3d16de606805cac737", func := "attic/atticlaw01.WordReads", spec := "wordReads", apart := false }
def WordReadsSaid : Prop := wordReadsRow.holds Try.pinned (OpenSpec.ofChange wordReadsSpec)

/-- ITS FALSE NEIGHBOUR: 'it returns false'. Refute it at one input. -/
def wordReadsWrong : ChangeSpec := { name := "wordReads", fn := fun _ => fun
  | [d1, d2] => { results := [.lit (.bool false)], args := [d1, d2] }
  | _ => none }
def WordReadsWrongFalsely : Prop := wordReadsRow.holds Try.pinned (OpenSpec.ofChange wordReadsWrong)

/-- 'atticlaw01.WordNone': WHATEVER THE INPUT: true; the input reads as it did. -/
def wordNoneSpec : ChangeSpec := { name := "wordNone", fn := fun _ => fun
  | [d1, d2] => { results := [.lit (.bool true)], args := [d1, d2] }
  | _ => none }
def wordNoneRow : OpenClaim := { program := "ytnhihiadmllnkaa", sum := "220d7a9171edc8ede694bcc3b2507309aceb05a9c9ed5a3d16de606805cac737", func := "attic/atticlaw01.WordNone", spec := "wordNone", apart := false }
def WordNoneSaid : Prop := wordNoneRow.holds Try.pinned (OpenSpec.ofChange wordNoneSpec)

/-- ITS FALSE NEIGHBOUR: 'it returns false'. Refute it at one input. -/
def wordNoneWrong : ChangeSpec := { name := "wordNone", fn := fun _ => fun
  | [d1, d2] => { results := [.lit (.bool false)], args := [d1, d2] }
  | _ => none }
def WordNoneWrongFalsely : Prop := wordNoneRow.holds Try.pinned (OpenSpec.ofChange wordNoneWrong)

/- THE SECOND FORM. 'bulk': how many values and letters a reading holds, each counted each time it is reached (what is shared counts as often as it is met; a slice's spare places count too). A statement '..UptoSaid' is the law's where the arguments, and the package variables that the reading takes, are together of bulk at most 1048576: NARROWER than '..Said'. Prove '..Said' where nothing that the law and all that it calls make is longer than what came in: it says more and counts as full. Else prove '..UptoSaid'. A law counts once. -/
mutual
def uptoBulk {H : Type} : DataW H → Nat
  | .lit (.string bytes) => bytes.length + 1
  | .lit _ => 1
  | .nil => 1
  | .ptr d => uptoBulk d + 1
  | .slice elems spare => uptoBulkAll elems + uptoBulkAll spare + 1
  | .agg parts => uptoBulkAll parts + 1
  | .iface _ d => uptoBulk d + 1
  | .map entries => uptoBulkEntries entries + 1
  | .held _ => 1
def uptoBulkAll {H : Type} : List (DataW H) → Nat
  | [] => 0
  | d :: r => uptoBulk d + uptoBulkAll r
def uptoBulkEntries {H : Type} : List (Lit × DataW H) → Nat
  | [] => 0
  | x :: r => uptoBulkEntry x + uptoBulkEntries r
def uptoBulkEntry {H : Type} : Lit × DataW H → Nat
  | (.string bytes, d) => bytes.length + uptoBulk d + 1
  | (_, d) => uptoBulk d + 1
 end
def uptoSmall : (H : Type) → List (DataW H) → Bool := fun _ ds => decide (uptoBulkAll ds ≤ 1048576)
def OpenSpec.upto (s : _root_.Go.ChangeSpec) : _root_.Go.OpenSpec := { _root_.Go.OpenSpec.ofChange s with cond := some uptoSmall }

/-- 'atticlaw01.WordLinear', WHERE WHAT IT READS IS OF BULK AT MOST 1048576: true; the input reads as it did. -/
def wordLinearUptoRow : OpenClaim := { program := "ytnhihiadmllnkaa", sum := "220d7a9171edc8ede694bcc3b2507309aceb05a9c9ed5a3d16de606805cac737", func := "attic/atticlaw01.WordLinear", spec := "wordLinear", apart := false, narrowed := true }
def WordLinearUptoSaid : Prop := wordLinearUptoRow.holds Try.pinned (OpenSpec.upto wordLinearSpec)

/-- 'atticlaw01.WordBurst', WHERE WHAT IT READS IS OF BULK AT MOST 1048576: true; the input reads as it did. -/
def wordBurstUptoRow : OpenClaim := { program := "ytnhihiadmllnkaa", sum := "220d7a9171edc8ede694bcc3b2507309aceb05a9c9ed5a3d16de606805cac737", func := "attic/atticlaw01.WordBurst", spec := "wordBurst", apart := false, narrowed := true }
def WordBurstUptoSaid : Prop := wordBurstUptoRow.holds Try.pinned (OpenSpec.upto wordBurstSpec)

/-- 'atticlaw01.WordNums', WHERE WHAT IT READS IS OF BULK AT MOST 1048576: true; the input reads as it did. -/
def wordNumsUptoRow : OpenClaim := { program := "ytnhihiadmllnkaa", sum := "220d7a9171edc8ede694bcc3b2507309aceb05a9c9ed5a3d16de606805cac737", func := "attic/atticlaw01.WordNums", spec := "wordNums", apart := false, narrowed := true }
def WordNumsUptoSaid : Prop := wordNumsUptoRow.holds Try.pinned (OpenSpec.upto wordNumsSpec)

/-- 'atticlaw01.WordUvars', WHERE WHAT IT READS IS OF BULK AT MOST 1048576: true; the input reads as it did. -/
def wordUvarsUptoRow : OpenClaim := { program := "ytnhihiadmllnkaa", sum := "220d7a9171edc8ede694bcc3b2507309aceb05a9c9ed5a3d16de606805cac737", func := "attic/atticlaw01.WordUvars", spec := "wordUvars", apart := false, narrowed := true }
def WordUvarsUptoSaid : Prop := wordUvarsUptoRow.holds Try.pinned (OpenSpec.upto wordUvarsSpec)

/-- 'atticlaw01.WordSums', WHERE WHAT IT READS IS OF BULK AT MOST 1048576: true; the input reads as it did. -/
def wordSumsUptoRow : OpenClaim := { program := "ytnhihiadmllnkaa", sum := "220d7a9171edc8ede694bcc3b2507309aceb05a9c9ed5a3d16de606805cac737", func := "attic/atticlaw01.WordSums", spec := "wordSums", apart := false, narrowed := true }
def WordSumsUptoSaid : Prop := wordSumsUptoRow.holds Try.pinned (OpenSpec.upto wordSumsSpec)

/-- 'atticlaw01.WordBack', WHERE WHAT IT READS IS OF BULK AT MOST 1048576: true; the input reads as it did. -/
def wordBackUptoRow : OpenClaim := { program := "ytnhihiadmllnkaa", sum := "220d7a9171edc8ede694bcc3b2507309aceb05a9c9ed5a3d16de606805cac737", func := "attic/atticlaw01.WordBack", spec := "wordBack", apart := false, narrowed := true }
def WordBackUptoSaid : Prop := wordBackUptoRow.holds Try.pinned (OpenSpec.upto wordBackSpec)

/-- 'atticlaw01.WordReads', WHERE WHAT IT READS IS OF BULK AT MOST 1048576: true; the input reads as it did. -/
def wordReadsUptoRow : OpenClaim := { program := "ytnhihiadmllnkaa", sum := "220d7a9171edc8ede694bcc3b2507309aceb05a9c9ed5a3d16de606805cac737", func := "attic/atticlaw01.WordReads", spec := "wordReads", apart := false, narrowed := true }
def WordReadsUptoSaid : Prop := wordReadsUptoRow.holds Try.pinned (OpenSpec.upto wordReadsSpec)

/-- 'atticlaw01.WordNone', WHERE WHAT IT READS IS OF BULK AT MOST 1048576: true; the input reads as it did. -/
def wordNoneUptoRow : OpenClaim := { program := "ytnhihiadmllnkaa", sum := "220d7a9171edc8ede694bcc3b2507309aceb05a9c9ed5a3d16de606805cac737", func := "attic/atticlaw01.WordNone", spec := "wordNone", apart := false, narrowed := true }
def WordNoneUptoSaid : Prop := wordNoneUptoRow.holds Try.pinned (OpenSpec.upto wordNoneSpec)

end Rows
end Go.Proofs.Ytnhihiadmllnkaa
