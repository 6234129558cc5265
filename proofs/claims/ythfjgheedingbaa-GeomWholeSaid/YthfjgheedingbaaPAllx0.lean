-- Written for this claim by a program of this session's own: each Go function that the law uses, as a plain Lean function, with the proof that the machine's call comes to it.
import Derived.Test.YthfjgheedingbaaProg
import Derived.Below
import Derived.Deep.Draws
import Derived.Deep.AppendLies
import Derived.Maps.AppendAt
import Derived.OwnWalk
import Derived.Laws.BytesArg
import Derived.Laws.MakeOwn
import Derived.Laws.OwnMore
import Derived.Deep.OwnRows
import Derived.Tactics
import Derived.Lib.ConvBytes
import Derived.Laws.Slices
import Derived.WalkKit
import Derived.KernelRfl
import Derived.RowKit3
import Derived.Deep.LoopGhost
import Derived.Deep.QuietTactic
import Derived.BigQuiet
import Derived.WideLaws
import Derived.Deep.DeepCutAuto
import Derived.Deep.CutBlock
import Derived.Deep.RegionHeld3
import Derived.Laws.Rows
import Derived.Lib.AppendStr
import Derived.ArgAppend
import Derived.Laws.IdiomCopy
import Derived.OrdersHeld
import Derived.Laws.BitsLemmas
import Derived.RowKit
import Derived.WalkSpells
import Derived.Lib.SlBytesConst
import Derived.Test.YthfjgheedingbaaWWords
import Derived.Test.YthfjgheedingbaaWLast
import Derived.Test.YthfjgheedingbaaWTab
import Derived.Test.YthfjgheedingbaaWFour
import Derived.Test.YthfjgheedingbaaWQPut
import Derived.Test.YthfjgheedingbaaWApart
import Derived.Test.YthfjgheedingbaaWArr
import Derived.Test.YthfjgheedingbaaWZeros
import Derived.Test.YthfjgheedingbaaWFoot
import Derived.Test.YthfjgheedingbaaWKept
import Derived.Test.YthfjgheedingbaaWShare
import Derived.Test.YthfjgheedingbaaWN
import Derived.Test.YthfjgheedingbaaWFootNe
import Derived.Test.YthfjgheedingbaaWAt
import Derived.Test.YthfjgheedingbaaWEqStruct
import Derived.Test.YthfjgheedingbaaWRepsOne
import Derived.Test.YthfjgheedingbaaWInv
import Derived.Test.YthfjgheedingbaaWInvWords
import Derived.Test.YthfjgheedingbaaWGuard
import Derived.Test.YthfjgheedingbaaWNEv
import Derived.Test.YthfjgheedingbaaWMore
namespace Go.Proofs.Ythfjgheedingbaa.PAll
open Go.RowKit Go.Proofs.YthfjgheedingbaaW.PrintWords Go.Proofs.YthfjgheedingbaaW.PrintLast Go.Proofs.YthfjgheedingbaaW.PrintMore
attribute [local go_sem] max2_int min2_int max_two min_two max_three min_three max_four min_four   -- for this text's walks alone
set_option linter.unusedVariables false
set_option linter.unusedSimpArgs false



def errW : Option Int → Value
  | none => .nilIface
  | some c => .iface 0 (.int .i64 c)
theorem errW_none : errW none = .nilIface := rfl
theorem errW_some (c : Int) : errW (some c) = .iface 0 (.int .i64 c) := rfl

theorem setCell_drewN_ (w : World) (n : Nat) (a : Addr) (v : Value) : (w.drewN n).setCell a v = (w.setCell a v).drewN n := rfl

theorem reads_len_ {α : Type} {R : α → List Value → Prop} {s : Nat} {w : World} {A : Option Addr} {n m : Nat} {ps : List α} (h : n = m) (H : ReadsRow R s w A n ps) : ReadsRow R s w A m ps := h ▸ H

theorem info3 : (Try.prog.info? 3).map (fun i => (i.zero, i.size, i.bytes)) = some (some (.int .i64 0), 1, 8) := by kernel_rfl
-- the values' own types

end Go.Proofs.Ythfjgheedingbaa.PAll
