/- DiskNone. -/
import Derived.Test.YthnadkdfgckijaaDkNone
namespace Go.Proofs.Ythnadkdfgckijaa.Pure
open Go.RowKit Go.Proofs.Ythnadkdfgckijaa Go.Proofs.Ythnadkdfgckijaa.PAll Go.Proofs.YthnadkdfgckijaaW.PrintWords Go.Proofs.YthnadkdfgckijaaW.PrintLast Go.Proofs.YthnadkdfgckijaaW.PrintMore
set_option linter.unusedVariables false in
theorem DiskNone (w : World) (i : Int) (_ : (Lit.int .i64 i).wf = true) (A1 : Option Addr) (c1 : Nat) (l1 : List Int) (hw1 : ∀ x ∈ l1, (Lit.int .u8 x).wf = true) (hy1 : l1.length * 1 ≤ 140737488351232) (hr1 : Kd.C (Kd.int .u8) w A1 l1.length l1) (hc1 : l1.length ≤ c1)
    (A2 : Option Addr) (c2 : Nat) (l2 : List Int) (hw2 : ∀ x ∈ l2, (Lit.int .u8 x).wf = true) (hy2 : l2.length * 1 ≤ 140737488351232) (hr2 : Kd.C (Kd.int .u8) w A2 l2.length l2) (hc2 : l2.length ≤ c2) :
    Calls Try.prog 7 #[.int .i64 i, .slice A1 l1.length c1, .slice A2 l2.length c2] w fun e w' => e = .returned (.bool true) ∧ Below w.heap.size w w' := none_c w i _ _
end Go.Proofs.Ythnadkdfgckijaa.Pure
