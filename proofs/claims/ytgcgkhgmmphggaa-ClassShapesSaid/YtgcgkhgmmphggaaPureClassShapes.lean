/- The law ClassShapes, over numbers alone: which shapes may be, how large an object of any is, and its class are the document's; for all shapes. -/
import Derived.Test.YtgcgkhgmmphggaaPAllx4
import Derived.Test.YtgcgkhgmmphggaaShapes
import Derived.Laws.BitsAllLaws
import Derived.Laws.Bits64
namespace Go.Proofs.Ytgcgkhgmmphggaa.Pure
open Go.RowKit Go.Proofs.Ytgcgkhgmmphggaa.PAll Go.Proofs.YtgcgkhgmmphggaaW.PrintWords Go.Proofs.YtgcgkhgmmphggaaW.PrintLast Go.Proofs.YtgcgkhgmmphggaaW.PrintMore

theorem ClassShapes : atticlaw11_ClassShapes.Pure := by
  intro a b c _ _ _
  refine ⟨20, ?_⟩
  unfold atticlaw11_ClassShapes.f
  rw [of_w, show (20 : Nat) = 0 + 20 from rfl, of_r, live_true, chk_w, chk_r, size_w, size_r]
  simp
end Go.Proofs.Ytgcgkhgmmphggaa.Pure
