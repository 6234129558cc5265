/- The law ClassPlaces, over numbers alone: where pointers and data of any shape stand is the document's; for all shapes and pointers. -/
import Derived.Test.YtgcgkhgmmphggaaPAllx5
import Derived.Test.YtgcgkhgmmphggaaShapes
import Derived.Laws.BitsAllLaws
import Derived.Laws.Bits64
namespace Go.Proofs.Ytgcgkhgmmphggaa.Pure
open Go.RowKit Go.Proofs.Ytgcgkhgmmphggaa.PAll Go.Proofs.YtgcgkhgmmphggaaW.PrintWords Go.Proofs.YtgcgkhgmmphggaaW.PrintLast Go.Proofs.YtgcgkhgmmphggaaW.PrintMore

theorem ClassPlaces : atticlaw11_ClassPlaces.Pure := by
  intro a b c i _ _ _ _
  unfold atticlaw11_ClassPlaces.f
  rw [live_true, ptr_w, ptr_r, data_w, data_r]
  simp
end Go.Proofs.Ytgcgkhgmmphggaa.Pure
