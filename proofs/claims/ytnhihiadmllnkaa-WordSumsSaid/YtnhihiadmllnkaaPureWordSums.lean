/- The law WordSums, over numbers and lists alone: any bytes' sum, any bytes with it, and the bytes ahead of it are the document's; for all rows of bytes. -/
import Derived.Test.YtnhihiadmllnkaaPAllx11
import Derived.Test.YtnhihiadmllnkaaSealed
import Derived.Laws.BitsAllLaws
import Derived.Laws.Bits64
namespace Go.Proofs.Ytnhihiadmllnkaa.Pure
open Go.RowKit Go.Proofs.Ytnhihiadmllnkaa.PAll Go.Proofs.YtnhihiadmllnkaaW.PrintWords Go.Proofs.YtnhihiadmllnkaaW.PrintLast Go.Proofs.YtnhihiadmllnkaaW.PrintMore

theorem WordSums : atticlaw01_WordSums.Pure := by
  intro l _ hl wl
  have hb := bytes_wf wl
  refine ⟨10 * (l.length + 4) + 10, ?_⟩
  obtain ⟨u1, u2⟩ := unseal_f l hb (by omega) (10 * (l.length + 4) + 10) (by omega)
  obtain ⟨s1, s2⟩ := seal_f l hb (by omega) (10 * (l.length + 4) + 10) (by omega)
  obtain ⟨v1, _⟩ := unseal_f (sealA l) (seal_bytes hb) (by rw [seal_length]; omega) (10 * (l.length + 4) + 10) (by rw [seal_length]; omega)
  rw [unseal_seal l hb] at v1
  have c1 := sum_f l hb (by omega) (10 * (l.length + 4) + 10) (by omega)
  have c2 := rsum_f l hb (by omega) (10 * (l.length + 4) + 10) (by omega)
  unfold atticlaw01_WordSums.f atticlaw01_live.f
  rw [u1, u2, s2]
  simp only [Option.bind_some]
  rw [v1]
  simp only [Option.bind_some, if_true]
  rw [c1, c2, s1]
  simp only [Option.bind_some, if_true, equal_self]
  simp
end Go.Proofs.Ytnhihiadmllnkaa.Pure
