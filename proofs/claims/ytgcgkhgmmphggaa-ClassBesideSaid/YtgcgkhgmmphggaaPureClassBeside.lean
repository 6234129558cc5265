/- The law ClassBeside, over numbers alone: pointers stand one behind the other, behind the head, the data behind them, all of it ahead of the size; for all shapes. -/
import Derived.Test.YtgcgkhgmmphggaaPAllx7
import Derived.Test.YtgcgkhgmmphggaaShapes
import Derived.Laws.BitsAllLaws
import Derived.Laws.Bits64
namespace Go.Proofs.Ytgcgkhgmmphggaa.Pure
open Go.RowKit Go.Proofs.Ytgcgkhgmmphggaa.PAll Go.Proofs.YtgcgkhgmmphggaaW.PrintWords Go.Proofs.YtgcgkhgmmphggaaW.PrintLast Go.Proofs.YtgcgkhgmmphggaaW.PrintMore

theorem beside_l0 (d : Nat) : ∀ (k i : Nat) (a b c : Int), chk a b c = 0 → (i : Int) + d = b → d < k → atticlaw11_ClassBeside.l0 k (16 + 8 * (i : Int)) b i a b c = some true := by
  induction d with
  | zero =>
    intro k i a b c h hi hk
    obtain ⟨k, rfl⟩ : ∃ m, k = m + 1 := ⟨k - 1, by omega⟩
    have hb : (i : Int) = b := by omega
    have hk2 := chk_ok h
    rw [atticlaw11_ClassBeside.l0, if_neg (by omega), data_w, ptr_w, ptr_w, size_w]
    simp only [Option.bind_some]
    have hs : sizeN a b c = 16 + 8 * b + c := by unfold sizeN; rw [if_pos h]
    rw [if_pos h, if_pos (show 16 + 8 * b = 16 + 8 * (i : Int) by omega), hs, if_pos (by unfold wrap64; omega), if_neg (show ¬ (chk a b c = 0 ∧ 0 ≤ b ∧ b < b) by omega), if_pos rfl, if_neg (show ¬ (chk a b c = 0 ∧ (0 : Int) ≤ -1 ∧ (-1 : Int) < b) by omega)]
    rfl
  | succ d ih =>
    intro k i a b c h hi hk
    obtain ⟨k, rfl⟩ : ∃ m, k = m + 1 := ⟨k - 1, by omega⟩
    have hk2 := chk_ok h
    rw [atticlaw11_ClassBeside.l0, if_pos (by omega), ptr_w]
    simp only [Option.bind_some]
    rw [if_pos (show chk a b c = 0 ∧ 0 ≤ (i : Int) ∧ (i : Int) < b by omega), if_pos rfl, show wrap64 (16 + 8 * (i : Int) + 8) = 16 + 8 * ((i + 1 : Nat) : Int) by unfold wrap64; omega, show wrap64 ((i : Int) + 1) = ((i + 1 : Nat) : Int) by unfold wrap64; omega]
    exact ih k (i + 1) a b c h (by omega) (by omega)
theorem ClassBeside : atticlaw11_ClassBeside.Pure := by
  intro a b c _ _ _
  refine ⟨130, ?_⟩
  unfold atticlaw11_ClassBeside.f
  rw [live_true, chk_w]
  simp only [Option.bind_some, if_true]
  show atticlaw11_ClassBeside.j0 (129 + 1) _ _ _ _ = _
  rw [atticlaw11_ClassBeside.j0]
  by_cases h : chk a b c = 0
  · have hk := chk_ok h
    rw [h, if_neg (by decide)]
    obtain ⟨d, hd⟩ : ∃ d : Nat, (d : Int) = b := ⟨b.toNat, by omega⟩
    exact beside_l0 d 129 0 a b c h (by omega) (by omega)
  · rw [if_pos (by simpa using h), live_true]
    rfl
end Go.Proofs.Ytgcgkhgmmphggaa.Pure
