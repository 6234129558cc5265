/- DiskReads. -/
import Derived.Test.YthnadkdfgckijaaDkReads
import Derived.Test.YthnadkdfgckijaaDkArg
namespace Go.Proofs.Ythnadkdfgckijaa.Pure
open Go.RowKit Go.Proofs.Ythnadkdfgckijaa Go.Proofs.Ythnadkdfgckijaa.PAll Go.Proofs.Ythnadkdfgckijaa.Arg
theorem DiskReads (w : World) (v : Value) (x : tyOps.T) (hx : Ty.K w tyOps x [v]) : Calls Try.prog 3 #[v] w fun e w' => e = .returned (.bool true) ∧ Below w.heap.size w w' := by
  obtain ⟨A, n, c, rfl, hc, hL⟩ := ops_of hx
  exact reads_c hL hc
end Go.Proofs.Ythnadkdfgckijaa.Pure
