/- Plain lemmas on geometries: which may be, and their plans; for all geometries. -/
import Derived.Test.YtojolpamgijcbaaPAllx5
import Derived.Laws.BitsAllLaws
import Derived.Laws.Bits64
namespace Go.Proofs.Ytojolpamgijcbaa.Pure
open Go.RowKit Go.Proofs.Ytojolpamgijcbaa.PAll Go.Proofs.YtojolpamgijcbaaW.PrintWords Go.Proofs.YtojolpamgijcbaaW.PrintLast Go.Proofs.YtojolpamgijcbaaW.PrintMore

theorem blocks_eq (n : Int) (e : Int) (h : 0 < e) : geom_blocks.f n e = some (wrap64 (Int.tdiv (wrap64 (n + (e - 1))) e)) := by
  unfold geom_blocks.f
  rw [if_neg (by omega), show wrap64 (wrap64 (n + e) - 1) = wrap64 (n + (e - 1)) by unfold wrap64; omega]

theorem plan_eq (a b c d : Int) : geom_plan.f a b c d = atticref04_plan.f a b c d := by
  unfold geom_plan.f atticref04_plan.f
  rw [blocks_eq d 32 (by omega), blocks_eq d 64 (by omega)]
  simp only [Option.bind_some]
  rw [Int.mul_comm d 4]
  rfl
theorem check_eq (k : Nat) (a b c d : Int) (hk : 1 ≤ k) : ∃ e, geom_Check.f a b c d = some e ∧ atticref04_Check.f k a b c d = some e := by
  obtain ⟨k, rfl⟩ : ∃ m, k = m + 1 := ⟨k - 1, by omega⟩
  unfold geom_Check.f atticref04_Check.f geom_within.f
  rw [plan_eq]
  obtain ⟨p, hp⟩ : ∃ p, atticref04_plan.f a b c d = some p := ⟨_, rfl⟩
  have h3 : p.1 = 3 := by
    unfold atticref04_plan.f at hp
    rw [← Option.some.inj hp]
  simp only [atticref04_Check.j0, hp, Option.bind_some, h3]
  by_cases b1 : b < 8
  · rw [if_pos b1, if_neg (show ¬ b ≥ 8 by omega)]
    simp
  by_cases b2 : b > 256
  · rw [if_neg b1, if_pos b2, if_pos (show b ≥ 8 by omega)]
    simp [show ¬ b ≤ 256 by omega]
  by_cases c1 : c < 1
  · rw [if_neg b1, if_neg b2, if_pos c1, if_pos (show b ≥ 8 by omega), if_neg (show ¬ c ≥ 1 by omega)]
    simp
  by_cases c2 : c > 64
  · rw [if_neg b1, if_neg b2, if_neg c1, if_pos c2, if_pos (show b ≥ 8 by omega), if_pos (show c ≥ 1 by omega)]
    simp [show ¬ c ≤ 64 by omega]
  by_cases d1 : d < 1
  · rw [if_neg b1, if_neg b2, if_neg c1, if_neg c2, if_pos d1, if_pos (show b ≥ 8 by omega), if_pos (show c ≥ 1 by omega), if_neg (show ¬ d ≥ 1 by omega)]
    simp
  rw [if_neg b1, if_neg b2, if_neg c1, if_neg c2, if_neg d1, if_pos (show b ≥ 8 by omega), if_pos (show c ≥ 1 by omega), if_pos (show d ≥ 1 by omega)]
  simp only [show b ≤ 256 by omega, show c ≤ 64 by omega, Option.bind_some]
  by_cases d2 : d > 256
  · simp [d2, show ¬ d ≤ 256 by omega]
  · by_cases e1 : a < p.2.2.2.2.2
    · simp [d2, show d ≤ 256 by omega, e1, show ¬ a ≥ p.2.2.2.2.2 by omega]
    · by_cases e2 : a > 2048
      · simp [d2, show d ≤ 256 by omega, e1, e2, show a ≥ p.2.2.2.2.2 by omega, show ¬ a ≤ 2048 by omega]
      · simp [d2, show d ≤ 256 by omega, e1, e2, show a ≥ p.2.2.2.2.2 by omega, show a ≤ 2048 by omega]
theorem check_ok {a b c d : Int} (h : geom_Check.f a b c d = some 0) : 8 ≤ b ∧ b ≤ 256 ∧ 1 ≤ c ∧ c ≤ 64 ∧ 1 ≤ d ∧ d ≤ 256 ∧ a ≤ 2048 ∧ ∃ p, geom_plan.f a b c d = some p ∧ p.2.2.2.2.2 ≤ a := by
  unfold geom_Check.f geom_within.f at h
  by_cases b1 : b ≥ 8
  · rw [if_pos b1] at h
    simp only [Option.bind_some] at h
    by_cases b2 : b ≤ 256
    · rw [if_pos (by simpa using b2)] at h
      by_cases c1 : c ≥ 1
      · rw [if_pos c1] at h
        simp only [Option.bind_some] at h
        by_cases c2 : c ≤ 64
        · rw [if_pos (by simpa using c2)] at h
          by_cases d1 : d ≥ 1
          · rw [if_pos d1] at h
            simp only [Option.bind_some] at h
            by_cases d2 : d ≤ 256
            · rw [if_pos (by simpa using d2)] at h
              obtain ⟨p, hp, h⟩ := Option.bind_eq_some_iff.1 h
              by_cases e1 : a ≥ p.2.2.2.2.2
              · rw [if_pos e1] at h
                simp only [Option.bind_some] at h
                by_cases e2 : a ≤ 2048
                · exact ⟨b1, b2, c1, c2, d1, d2, e2, p, hp, e1⟩
                · rw [if_neg (by simpa using e2)] at h; simp at h
              · rw [if_neg e1] at h; simp at h
            · rw [if_neg (by simpa using d2)] at h; simp at h
          · rw [if_neg d1] at h; simp at h
        · rw [if_neg (by simpa using c2)] at h; simp at h
      · rw [if_neg c1] at h; simp at h
    · rw [if_neg (by simpa using b2)] at h; simp at h
  · rw [if_neg b1] at h; simp at h
theorem chk_eq (k : Nat) (a0 a1 a2 a3 a4 a5 : Int) (hk : 1 ≤ k) : ∃ e, super_Check.f a0 a1 a2 a3 a4 a5 = some e ∧ atticref05_Check.f k a0 a1 a2 a3 a4 a5 = some e := by
  obtain ⟨e, h1, h2⟩ := check_eq k a1 a2 a3 a4 hk
  unfold super_Check.f atticref05_Check.f
  rw [h1, h2]
  simp only [Option.bind_some]
  by_cases h : e = 0
  · rw [if_pos h]
    by_cases b1 : a0 < 1
    · rw [if_pos b1]; exact ⟨_, rfl, rfl⟩
    · rw [if_neg b1]
      by_cases b2 : a0 > 1152921504606846976
      · rw [if_pos b2]; exact ⟨_, rfl, rfl⟩
      · rw [if_neg b2]
        by_cases b3 : a5 < 0
        · rw [if_pos b3]; exact ⟨_, rfl, rfl⟩
        · rw [if_neg b3]
          by_cases b4 : a5 > 1152921504606846976
          · rw [if_pos b4]; exact ⟨_, rfl, rfl⟩
          · rw [if_neg b4]; exact ⟨_, rfl, rfl⟩
  · rw [if_neg h]; exact ⟨_, rfl, rfl⟩
/-- A super that may be. -/
theorem chk_ok {a0 a1 a2 a3 a4 a5 : Int} (h : super_Check.f a0 a1 a2 a3 a4 a5 = some 0) : geom_Check.f a1 a2 a3 a4 = some 0 ∧ 1 ≤ a0 ∧ a0 ≤ 1152921504606846976 ∧ 0 ≤ a5 ∧ a5 ≤ 1152921504606846976 := by
  unfold super_Check.f at h
  obtain ⟨e, he, h⟩ := Option.bind_eq_some_iff.1 h
  by_cases h0 : e = 0
  · subst h0
    rw [if_pos rfl] at h
    by_cases b1 : a0 < 1
    · rw [if_pos b1] at h; cases h
    · rw [if_neg b1] at h
      by_cases b2 : a0 > 1152921504606846976
      · rw [if_pos b2] at h; cases h
      · rw [if_neg b2] at h
        by_cases b3 : a5 < 0
        · rw [if_pos b3] at h; cases h
        · rw [if_neg b3] at h
          by_cases b4 : a5 > 1152921504606846976
          · rw [if_pos b4] at h; cases h
          · exact ⟨he, by omega, by omega, by omega, by omega⟩
  · rw [if_neg h0] at h
    exact absurd (Option.some.inj h) h0
theorem first_eq (k : Nat) (a b c d : Int) (hk : 1 ≤ k) : ∃ r, super_First.f a b c d = some r ∧ atticref05_First.f k a b c d = some r := by
  obtain ⟨e, h1, h2⟩ := check_eq k a b c d hk
  unfold super_First.f atticref05_First.f
  rw [h1, h2]
  simp only [Option.bind_some]
  by_cases h0 : e = 0
  · rw [if_pos h0]; exact ⟨_, rfl, rfl⟩
  · rw [if_neg h0]; exact ⟨_, rfl, rfl⟩
theorem next_eq (k : Nat) (a0 a1 a2 a3 a4 a5 h : Int) (hk : 2 ≤ k) : ∃ r, super_Next.f k a0 a1 a2 a3 a4 a5 h = some r ∧ atticref05_Next.f k a0 a1 a2 a3 a4 a5 h = some r := by
  obtain ⟨k, rfl⟩ : ∃ m, k = m + 1 := ⟨k - 1, by omega⟩
  obtain ⟨e, h1, h2⟩ := chk_eq (k + 1) a0 a1 a2 a3 a4 a5 (by omega)
  unfold super_Next.f atticref05_Next.f
  rw [h1, h2]
  simp only [Option.bind_some]
  by_cases h0 : e = 0
  · rw [if_pos h0, if_pos h0]
    subst h0
    have key : ∀ x, super_Next.j0 (k + 1) h 0 x a0 a1 a2 a3 a4 a5 = atticref05_Next.j0 (k + 1) h x a0 a1 a2 a3 a4 a5 ∧ ∃ r, super_Next.j0 (k + 1) h 0 x a0 a1 a2 a3 a4 a5 = some r := by
      intro x
      unfold super_Next.j0 atticref05_Next.j0
      cases x
      · by_cases q : a0 = 1152921504606846976
        · simp [q]
        · simp [q]
      · simp
    by_cases hh : h < a5
    · rw [if_pos hh, if_pos hh]
      obtain ⟨k1, r, k2⟩ := key true
      exact ⟨r, k2, by rw [← k1, k2]⟩
    · rw [if_neg hh, if_neg hh]
      obtain ⟨k1, r, k2⟩ := key (decide (h > 1152921504606846976))
      exact ⟨r, k2, by rw [← k1, k2]⟩
  · rw [if_neg h0, if_neg h0]
    exact ⟨_, rfl, rfl⟩
theorem slot_eq (a0 a1 a2 a3 a4 a5 : Int) : ∃ r, super_Slot.f a0 a1 a2 a3 a4 a5 = some r ∧ atticref05_Slot.f a0 a1 a2 a3 a4 a5 = some r ∧ r = (if a0 < 0 then 0 else a0 % 2) := by
  unfold super_Slot.f atticref05_Slot.f mx
  by_cases h : a0 < 0
  · simp [h]
  · rw [if_neg h, if_neg h, if_neg h, Int.tmod_eq_emod_of_nonneg (by omega)]
    exact ⟨_, rfl, rfl, rfl⟩
theorem live_true : atticlaw05_live.f 3 = some true := by decide +kernel
end Go.Proofs.Ytojolpamgijcbaa.Pure
