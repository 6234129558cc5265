/- The law GeomPlans, over numbers alone: which geometries may be, and their plans, are the document's; for all geometries. -/
import Derived.Test.YthfjgheedingbaaPAllx5
import Derived.Laws.BitsAllLaws
import Derived.Laws.Bits64
namespace Go.Proofs.Ythfjgheedingbaa.Pure
open Go.RowKit Go.Proofs.Ythfjgheedingbaa.PAll Go.Proofs.YthfjgheedingbaaW.PrintWords Go.Proofs.YthfjgheedingbaaW.PrintLast Go.Proofs.YthfjgheedingbaaW.PrintMore

theorem blocks_eq (n : Int) (e : Int) (h : 0 < e) : geom_blocks.f n e = some (wrap64 (Int.tdiv (wrap64 (n + (e - 1))) e)) := by
  unfold geom_blocks.f
  rw [if_neg (by omega), show wrap64 (wrap64 (n + e) - 1) = wrap64 (n + (e - 1)) by unfold wrap64; omega]

theorem plan_eq (a b c d : Int) : geom_plan.f a b c d = atticref04_plan.f a b c d := by
  unfold geom_plan.f atticref04_plan.f
  rw [blocks_eq d 32 (by omega), blocks_eq d 64 (by omega)]
  simp only [Option.bind_some]
  rw [Int.mul_comm d 4]
  rfl
theorem check_eq (k : Nat) (a b c d : Int) (hk : 1 ≤ k) : ∃ e, geom_Check.f a b c d = some e ∧ atticref04_Check.f k a b c d = some e := by
  obtain ⟨k, rfl⟩ : ∃ m, k = m + 1 := ⟨k - 1, by omega⟩
  unfold geom_Check.f atticref04_Check.f geom_within.f
  rw [plan_eq]
  obtain ⟨p, hp⟩ : ∃ p, atticref04_plan.f a b c d = some p := ⟨_, rfl⟩
  have h3 : p.1 = 3 := by
    unfold atticref04_plan.f at hp
    rw [← Option.some.inj hp]
  simp only [atticref04_Check.j0, hp, Option.bind_some, h3]
  by_cases b1 : b < 8
  · rw [if_pos b1, if_neg (show ¬ b ≥ 8 by omega)]
    simp
  by_cases b2 : b > 256
  · rw [if_neg b1, if_pos b2, if_pos (show b ≥ 8 by omega)]
    simp [show ¬ b ≤ 256 by omega]
  by_cases c1 : c < 1
  · rw [if_neg b1, if_neg b2, if_pos c1, if_pos (show b ≥ 8 by omega), if_neg (show ¬ c ≥ 1 by omega)]
    simp
  by_cases c2 : c > 64
  · rw [if_neg b1, if_neg b2, if_neg c1, if_pos c2, if_pos (show b ≥ 8 by omega), if_pos (show c ≥ 1 by omega)]
    simp [show ¬ c ≤ 64 by omega]
  by_cases d1 : d < 1
  · rw [if_neg b1, if_neg b2, if_neg c1, if_neg c2, if_pos d1, if_pos (show b ≥ 8 by omega), if_pos (show c ≥ 1 by omega), if_neg (show ¬ d ≥ 1 by omega)]
    simp
  rw [if_neg b1, if_neg b2, if_neg c1, if_neg c2, if_neg d1, if_pos (show b ≥ 8 by omega), if_pos (show c ≥ 1 by omega), if_pos (show d ≥ 1 by omega)]
  simp only [show b ≤ 256 by omega, show c ≤ 64 by omega, Option.bind_some]
  by_cases d2 : d > 256
  · simp [d2, show ¬ d ≤ 256 by omega]
  · by_cases e1 : a < p.2.2.2.2.2
    · simp [d2, show d ≤ 256 by omega, e1, show ¬ a ≥ p.2.2.2.2.2 by omega]
    · by_cases e2 : a > 2048
      · simp [d2, show d ≤ 256 by omega, e1, e2, show a ≥ p.2.2.2.2.2 by omega, show ¬ a ≤ 2048 by omega]
      · simp [d2, show d ≤ 256 by omega, e1, e2, show a ≥ p.2.2.2.2.2 by omega, show a ≤ 2048 by omega]
theorem of_eq (k : Nat) (a b c d : Int) (hk : 1 ≤ k) : ∃ r, geom_Of.f a b c d = some r ∧ atticref04_Of.f k a b c d = some r := by
  obtain ⟨e, h1, h2⟩ := check_eq k a b c d hk
  unfold geom_Of.f atticref04_Of.f
  rw [h1, h2, plan_eq]
  obtain ⟨p, hp⟩ : ∃ p, atticref04_plan.f a b c d = some p := ⟨_, rfl⟩
  rw [hp]
  simp only [Option.bind_some]
  by_cases h : e = 0
  · rw [if_pos h]; exact ⟨_, rfl, rfl⟩
  · rw [if_neg h]; exact ⟨_, rfl, rfl⟩
theorem begun_true : atticlaw04_begun.f = some true := by decide +kernel
theorem GeomPlans : atticlaw04_GeomPlans.Pure := by
  intro a b c d _ _ _ _
  refine ⟨1, ?_⟩
  obtain ⟨e, h1, h2⟩ := check_eq 1 a b c d (by omega)
  obtain ⟨r, h3, h4⟩ := of_eq 1 a b c d (by omega)
  unfold atticlaw04_GeomPlans.f
  rw [h3, h4, begun_true, h1, h2]
  simp
end Go.Proofs.Ythfjgheedingbaa.Pure
