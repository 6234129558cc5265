/- The law WordNums, over numbers and lists alone: a number's bytes, and the number that stands anywhere in any bytes, are the document's; for all rows of bytes, numbers and places. -/
import Derived.Test.YtnhihiadmllnkaaPAllx7
import Derived.Test.YtnhihiadmllnkaaGet
import Derived.Laws.BitsAllLaws
import Derived.Laws.Bits64
namespace Go.Proofs.Ytnhihiadmllnkaa.Pure
open Go.RowKit Go.Proofs.Ytnhihiadmllnkaa.PAll Go.Proofs.YtnhihiadmllnkaaW.PrintWords Go.Proofs.YtnhihiadmllnkaaW.PrintLast Go.Proofs.YtnhihiadmllnkaaW.PrintMore

theorem WordNums_pure (l : List Int) (v p n : Int) (hl : l.length ≤ 140737488351232) (hb : Bytes l) (hv : 0 ≤ v) : ∃ k, atticlaw01_WordNums.f k l v p n = some true := by
  refine ⟨10, ?_⟩
  obtain ⟨g1, g2⟩ := get_f 10 l p n hb (by omega) (Nat.le_refl _)
  obtain ⟨u, rfl⟩ : ∃ u : Nat, v = u := ⟨v.toNat, by omega⟩
  unfold atticlaw01_WordNums.f atticlaw01_live.f
  rw [g1, g2, num_f 10 n u (Nat.le_refl _), rnum_f 10 n u (Nat.le_refl _)]
  simp only [Option.bind_some, if_true]
  rw [equal_self]
  simp
theorem WordNums : atticlaw01_WordNums.Pure := by
  intro l v p n _ hl wl wv _ _
  have hv : 0 ≤ v := by
    simp [Lit.wf, IntKind.min, IntKind.max, IntKind.signed, IntKind.bits] at wv
    omega
  exact WordNums_pure l v p n (by omega) (bytes_wf wl) hv
end Go.Proofs.Ytnhihiadmllnkaa.Pure
