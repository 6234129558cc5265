/- The law ClassLeast, over numbers alone: the class of a shape has room for it, and no lesser class has; for all shapes. -/
import Derived.Test.YtgcgkhgmmphggaaPAllx6
import Derived.Test.YtgcgkhgmmphggaaShapes
import Derived.Laws.BitsAllLaws
import Derived.Laws.Bits64
namespace Go.Proofs.Ytgcgkhgmmphggaa.Pure
open Go.RowKit Go.Proofs.Ytgcgkhgmmphggaa.PAll Go.Proofs.YtgcgkhgmmphggaaW.PrintWords Go.Proofs.YtgcgkhgmmphggaaW.PrintLast Go.Proofs.YtgcgkhgmmphggaaW.PrintMore

theorem slots_w (c : Nat) (h : c < 6) : class_Slots.f (c : Int) = some (1024 / class_Of.slot c) := by
  have hc : c = 0 ∨ c = 1 ∨ c = 2 ∨ c = 3 ∨ c = 4 ∨ c = 5 := by omega
  rcases hc with rfl | rfl | rfl | rfl | rfl | rfl <;> decide +kernel
theorem ofN_is (n : Int) : (class_Of.ofN n = (0, 111) ∧ n > 1024) ∨ ∃ c : Nat, c < 6 ∧ class_Of.ofN n = ((c : Int), 0) ∧ n ≤ class_Of.slot c ∧ (c = 0 ∨ class_Of.slot c < 2 * n) := by
  unfold class_Of.ofN class_Of.slot
  by_cases h0 : n ≤ 32
  · right; exact ⟨0, by omega, by rw [if_pos h0]; rfl, by simpa using h0, .inl rfl⟩
  by_cases h1 : n ≤ 64
  · right; exact ⟨1, by omega, by rw [if_neg h0, if_pos h1]; rfl, by simpa using h1, .inr (by simp; omega)⟩
  by_cases h2 : n ≤ 128
  · right; exact ⟨2, by omega, by rw [if_neg h0, if_neg h1, if_pos h2]; rfl, by simpa using h2, .inr (by simp; omega)⟩
  by_cases h3 : n ≤ 256
  · right; exact ⟨3, by omega, by rw [if_neg h0, if_neg h1, if_neg h2, if_pos h3]; rfl, by simpa using h3, .inr (by simp; omega)⟩
  by_cases h4 : n ≤ 512
  · right; exact ⟨4, by omega, by rw [if_neg h0, if_neg h1, if_neg h2, if_neg h3, if_pos h4]; rfl, by simpa using h4, .inr (by simp; omega)⟩
  by_cases h5 : n ≤ 1024
  · right; exact ⟨5, by omega, by rw [if_neg h0, if_neg h1, if_neg h2, if_neg h3, if_neg h4, if_pos h5]; rfl, by simpa using h5, .inr (by simp; omega)⟩
  · left; exact ⟨by rw [if_neg h0, if_neg h1, if_neg h2, if_neg h3, if_neg h4, if_neg h5], by omega⟩
theorem slots_all (c : Nat) (h : c < 6) : wrap64 (1024 / class_Of.slot c * class_Of.slot c) = 1024 := by
  have hc : c = 0 ∨ c = 1 ∨ c = 2 ∨ c = 3 ∨ c = 4 ∨ c = 5 := by omega
  rcases hc with rfl | rfl | rfl | rfl | rfl | rfl <;> decide +kernel
theorem ClassLeast : atticlaw11_ClassLeast.Pure := by
  intro a b c _ _ _
  unfold atticlaw11_ClassLeast.f
  rw [of_w, size_w, live_true, chk_w]
  simp only [Option.bind_some, if_true]
  by_cases h : chk a b c = 0
  · rw [if_pos h]
    have hk := chk_ok h
    have hn : sizeN a b c = 16 + 8 * b + c := by unfold sizeN; rw [if_pos h]
    rcases ofN_is (sizeN a b c) with ⟨h1, h2⟩ | ⟨d, hd, h1, h2, h3⟩
    · rw [h1, if_pos rfl, show class_Slot.f 5 = some 1024 by decide +kernel]
      simp only [Option.bind_some]
      rw [decide_eq_true h2]
    · rw [h1]
      have e1 : ¬ ((0 : Int) = 111) := by omega
      rw [if_neg e1, if_pos rfl, if_pos (by omega), class_Of.slotf d hd]
      simp only [Option.bind_some]
      rw [if_pos h2, slots_w d hd]
      simp only [Option.bind_some]
      rw [slots_all d hd]
      by_cases h0 : (d : Int) = 0
      · rw [if_pos h0]; rfl
      · rw [if_neg h0, if_pos (by unfold wrap64; omega)]; rfl
  · rw [if_neg h]
    have h110 : chk a b c = 110 := (chk_or a b c).resolve_left h
    have hn : sizeN a b c = 0 := by unfold sizeN; rw [if_neg h]
    rw [h110, hn]
    decide +kernel
end Go.Proofs.Ytgcgkhgmmphggaa.Pure
