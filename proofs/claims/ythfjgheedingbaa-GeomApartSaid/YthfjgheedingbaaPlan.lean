/- Plain lemmas on geometries: which may be, and their plans; for all geometries. -/
import Derived.Test.YthfjgheedingbaaPAllx5
import Derived.Test.YthfjgheedingbaaPAllx7
import Derived.Laws.BitsAllLaws
import Derived.Laws.Bits64
namespace Go.Proofs.Ythfjgheedingbaa.Pure
open Go.RowKit Go.Proofs.Ythfjgheedingbaa.PAll Go.Proofs.YthfjgheedingbaaW.PrintWords Go.Proofs.YthfjgheedingbaaW.PrintLast Go.Proofs.YthfjgheedingbaaW.PrintMore

theorem blocks_eq (n : Int) (e : Int) (h : 0 < e) : geom_blocks.f n e = some (wrap64 (Int.tdiv (wrap64 (n + (e - 1))) e)) := by
  unfold geom_blocks.f
  rw [if_neg (by omega), show wrap64 (wrap64 (n + e) - 1) = wrap64 (n + (e - 1)) by unfold wrap64; omega]

theorem plan_eq (a b c d : Int) : geom_plan.f a b c d = atticref04_plan.f a b c d := by
  unfold geom_plan.f atticref04_plan.f
  rw [blocks_eq d 32 (by omega), blocks_eq d 64 (by omega)]
  simp only [Option.bind_some]
  rw [Int.mul_comm d 4]
  rfl
theorem check_eq (k : Nat) (a b c d : Int) (hk : 1 ≤ k) : ∃ e, geom_Check.f a b c d = some e ∧ atticref04_Check.f k a b c d = some e := by
  obtain ⟨k, rfl⟩ : ∃ m, k = m + 1 := ⟨k - 1, by omega⟩
  unfold geom_Check.f atticref04_Check.f geom_within.f
  rw [plan_eq]
  obtain ⟨p, hp⟩ : ∃ p, atticref04_plan.f a b c d = some p := ⟨_, rfl⟩
  have h3 : p.1 = 3 := by
    unfold atticref04_plan.f at hp
    rw [← Option.some.inj hp]
  simp only [atticref04_Check.j0, hp, Option.bind_some, h3]
  by_cases b1 : b < 8
  · rw [if_pos b1, if_neg (show ¬ b ≥ 8 by omega)]
    simp
  by_cases b2 : b > 256
  · rw [if_neg b1, if_pos b2, if_pos (show b ≥ 8 by omega)]
    simp [show ¬ b ≤ 256 by omega]
  by_cases c1 : c < 1
  · rw [if_neg b1, if_neg b2, if_pos c1, if_pos (show b ≥ 8 by omega), if_neg (show ¬ c ≥ 1 by omega)]
    simp
  by_cases c2 : c > 64
  · rw [if_neg b1, if_neg b2, if_neg c1, if_pos c2, if_pos (show b ≥ 8 by omega), if_pos (show c ≥ 1 by omega)]
    simp [show ¬ c ≤ 64 by omega]
  by_cases d1 : d < 1
  · rw [if_neg b1, if_neg b2, if_neg c1, if_neg c2, if_pos d1, if_pos (show b ≥ 8 by omega), if_pos (show c ≥ 1 by omega), if_neg (show ¬ d ≥ 1 by omega)]
    simp
  rw [if_neg b1, if_neg b2, if_neg c1, if_neg c2, if_neg d1, if_pos (show b ≥ 8 by omega), if_pos (show c ≥ 1 by omega), if_pos (show d ≥ 1 by omega)]
  simp only [show b ≤ 256 by omega, show c ≤ 64 by omega, Option.bind_some]
  by_cases d2 : d > 256
  · simp [d2, show ¬ d ≤ 256 by omega]
  · by_cases e1 : a < p.2.2.2.2.2
    · simp [d2, show d ≤ 256 by omega, e1, show ¬ a ≥ p.2.2.2.2.2 by omega]
    · by_cases e2 : a > 2048
      · simp [d2, show d ≤ 256 by omega, e1, e2, show a ≥ p.2.2.2.2.2 by omega, show ¬ a ≤ 2048 by omega]
      · simp [d2, show d ≤ 256 by omega, e1, e2, show a ≥ p.2.2.2.2.2 by omega, show a ≤ 2048 by omega]
theorem of_eq (k : Nat) (a b c d : Int) (hk : 1 ≤ k) : ∃ r, geom_Of.f a b c d = some r ∧ atticref04_Of.f k a b c d = some r := by
  obtain ⟨e, h1, h2⟩ := check_eq k a b c d hk
  unfold geom_Of.f atticref04_Of.f
  rw [h1, h2, plan_eq]
  obtain ⟨p, hp⟩ : ∃ p, atticref04_plan.f a b c d = some p := ⟨_, rfl⟩
  rw [hp]
  simp only [Option.bind_some]
  by_cases h : e = 0
  · rw [if_pos h]; exact ⟨_, rfl, rfl⟩
  · rw [if_neg h]; exact ⟨_, rfl, rfl⟩
theorem begun_true : atticlaw04_begun.f = some true := by decide +kernel
theorem check_ok {a b c d : Int} (h : geom_Check.f a b c d = some 0) : 8 ≤ b ∧ b ≤ 256 ∧ 1 ≤ c ∧ c ≤ 64 ∧ 1 ≤ d ∧ d ≤ 256 ∧ a ≤ 2048 ∧ ∃ p, geom_plan.f a b c d = some p ∧ p.2.2.2.2.2 ≤ a := by
  unfold geom_Check.f geom_within.f at h
  by_cases b1 : b ≥ 8
  · rw [if_pos b1] at h
    simp only [Option.bind_some] at h
    by_cases b2 : b ≤ 256
    · rw [if_pos (by simpa using b2)] at h
      by_cases c1 : c ≥ 1
      · rw [if_pos c1] at h
        simp only [Option.bind_some] at h
        by_cases c2 : c ≤ 64
        · rw [if_pos (by simpa using c2)] at h
          by_cases d1 : d ≥ 1
          · rw [if_pos d1] at h
            simp only [Option.bind_some] at h
            by_cases d2 : d ≤ 256
            · rw [if_pos (by simpa using d2)] at h
              obtain ⟨p, hp, h⟩ := Option.bind_eq_some_iff.1 h
              by_cases e1 : a ≥ p.2.2.2.2.2
              · rw [if_pos e1] at h
                simp only [Option.bind_some] at h
                by_cases e2 : a ≤ 2048
                · exact ⟨b1, b2, c1, c2, d1, d2, e2, p, hp, e1⟩
                · rw [if_neg (by simpa using e2)] at h; simp at h
              · rw [if_neg e1] at h; simp at h
            · rw [if_neg (by simpa using d2)] at h; simp at h
          · rw [if_neg d1] at h; simp at h
        · rw [if_neg (by simpa using c2)] at h; simp at h
      · rw [if_neg c1] at h; simp at h
    · rw [if_neg (by simpa using b2)] at h; simp at h
  · rw [if_neg b1] at h; simp at h
/-- A plan's numbers. -/
structure IsPlan (a b c d : Int) (p : Int × Int × Int × Int × Int × Int) : Prop where
  hb : 8 ≤ b ∧ b ≤ 256
  hc : 1 ≤ c ∧ c ≤ 64
  hd : 1 ≤ d ∧ d ≤ 256
  p1 : p.1 = 3
  p2 : p.2.1 = 3 + b
  p3 : p.2.2.1 = 3 + b + (d + 31) / 32
  p4 : p.2.2.2.1 = 3 + b + (d + 31) / 32 + (d + 63) / 64
  p5 : p.2.2.2.2.1 = 3 + b + (d + 31) / 32 + (d + 63) / 64 + c
  p6 : p.2.2.2.2.2 = 3 + b + (d + 31) / 32 + (d + 63) / 64 + c + 4 * d
  ha : p.2.2.2.2.2 ≤ a ∧ a ≤ 2048
theorem of_ok {a b c d : Int} {r : Int × Int × Int × Int × Int × Int × Int} (h : geom_Of.f a b c d = some r) (h0 : r.2.2.2.2.2.2 = 0) : IsPlan a b c d (r.1, r.2.1, r.2.2.1, r.2.2.2.1, r.2.2.2.2.1, r.2.2.2.2.2.1) := by
  unfold geom_Of.f at h
  obtain ⟨e, he, h⟩ := Option.bind_eq_some_iff.1 h
  by_cases e0 : e = 0
  · subst e0
    obtain ⟨b1, b2, c1, c2, d1, d2, a1, p, hp, a2⟩ := check_ok he
    rw [if_pos rfl, hp] at h
    simp only [Option.bind_some] at h
    obtain rfl := Option.some.inj h
    rw [plan_eq] at hp
    unfold atticref04_plan.f at hp
    have w1 : wrap64 (d + 31) = d + 31 := by unfold wrap64; omega
    have w2 : wrap64 (d + 63) = d + 63 := by unfold wrap64; omega
    rw [w1, w2, Int.tdiv_eq_ediv_of_nonneg (by omega), Int.tdiv_eq_ediv_of_nonneg (by omega)] at hp
    have hp := Option.some.inj hp
    subst hp
    simp only [] at a2
    unfold wrap64 at a2
    constructor <;> (try simp only []) <;> (try unfold wrap64) <;> omega
  · rw [if_neg e0] at h
    obtain rfl := Option.some.inj h
    exact absurd h0 e0
end Go.Proofs.Ythfjgheedingbaa.Pure
