/- DiskSectors. -/
import Derived.Test.YthnadkdfgckijaaDkSec
import Derived.Test.YthnadkdfgckijaaDkArg
namespace Go.Proofs.Ythnadkdfgckijaa.Pure
open Go.RowKit Go.Proofs.Ythnadkdfgckijaa Go.Proofs.Ythnadkdfgckijaa.PAll Go.Proofs.Ythnadkdfgckijaa.Arg Go.Proofs.YthnadkdfgckijaaW.PrintWords Go.Proofs.YthnadkdfgckijaaW.PrintLast Go.Proofs.YthnadkdfgckijaaW.PrintMore
set_option linter.unusedVariables false in
theorem DiskSectors (w : World) (v : Value) (x : tyOps.T) (hx : Ty.K w tyOps x [v]) (A1 : Option Addr) (c1 : Nat) (l1 : List Int) (hw1 : ∀ x ∈ l1, (Lit.int .u8 x).wf = true) (hy1 : l1.length * 1 ≤ 140737488351232) (hr1 : Kd.C (Kd.int .u8) w A1 l1.length l1) (hc1 : l1.length ≤ c1) :
    Calls Try.prog 4 #[v, .slice A1 l1.length c1] w fun e w' => e = .returned (.bool true) ∧ Below w.heap.size w w' := by
  obtain ⟨A, n, c, rfl, hc, hL⟩ := ops_of hx
  exact sectors_c hL hc hr1 rfl hc1
end Go.Proofs.Ythnadkdfgckijaa.Pure
