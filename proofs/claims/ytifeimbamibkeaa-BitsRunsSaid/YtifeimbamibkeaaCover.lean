/- A row's runs cover its ones, and lie apart; for all rows. -/
import Derived.Test.YtifeimbamibkeaaRuns
namespace Go.Proofs.Ytifeimbamibkeaa.Pure
open Go.RowKit Go.Proofs.Ytifeimbamibkeaa.PAll Go.Proofs.YtifeimbamibkeaaW.PrintWords Go.Proofs.YtifeimbamibkeaaW.PrintLast Go.Proofs.YtifeimbamibkeaaW.PrintMore
set_option linter.unusedVariables false

def InRun (t : Nat) (x : Nat × Nat) : Prop := x.1 ≤ t ∧ t < x.1 + x.2
theorem runR_cover (l : List Int) (t : Nat) : ∀ i, (∃ x ∈ runR l i, InRun t x) ↔ (t < i ∧ bitN l t = true)
  | 0 => by simp [runR]
  | i + 1 => by
    have ih := runR_cover l t i
    unfold runR
    by_cases hb : bitN l i = true
    · rw [if_pos hb]
      rcases List.eq_nil_or_concat (runR l i) with hP | ⟨Q, y, hP⟩
      · rw [hP] at ih ⊢
        show (∃ x ∈ [] ++ [(i, 1)], InRun t x) ↔ _
        have : ¬ (t < i ∧ bitN l t = true) := fun h => by obtain ⟨x, hx, _⟩ := ih.2 h; cases hx
        simp [InRun]
        constructor
        · intro h
          obtain rfl : t = i := by omega
          exact ⟨by omega, hb⟩
        · intro h
          by_cases e : t = i
          · omega
          · exact absurd ⟨by omega, h.2⟩ this
      · have hgl : (Q ++ [y]).getLast? = some y := by simp
        rw [hP, List.concat_eq_append] at ih ⊢
        rw [hgl]
        show (∃ x ∈ (if y.1 + y.2 = i then _ else _), InRun t x) ↔ _
        by_cases he : y.1 + y.2 = i
        · rw [if_pos he, List.dropLast_concat]
          simp only [List.mem_append, List.mem_singleton, or_and_right, exists_or, exists_eq_left, InRun] at ih ⊢
          constructor
          · rintro (h | h)
            · have := ih.1 (.inl h); exact ⟨by omega, this.2⟩
            · by_cases e : t = i
              · subst e; exact ⟨by omega, hb⟩
              · have := ih.1 (.inr ⟨h.1, by omega⟩); exact ⟨by omega, this.2⟩
          · intro h
            by_cases e : t = i
            · exact .inr (by omega)
            · rcases ih.2 ⟨by omega, h.2⟩ with h | h
              · exact .inl h
              · exact .inr (by omega)
        · rw [if_neg he]
          simp only [List.mem_append, List.mem_singleton, or_and_right, exists_or, exists_eq_left, InRun] at ih ⊢
          constructor
          · rintro (h | h)
            · have := ih.1 h; exact ⟨by omega, this.2⟩
            · obtain rfl : t = i := by omega
              exact ⟨by omega, hb⟩
          · intro h
            by_cases e : t = i
            · exact .inr (by omega)
            · exact .inl (ih.2 ⟨by omega, h.2⟩)
    · rw [if_neg hb, ih]
      constructor
      · intro h; exact ⟨by omega, h.2⟩
      · intro h
        refine ⟨?_, h.2⟩
        by_cases e : t = i
        · subst e; exact absurd h.2 hb
        · omega
theorem runR_apart (l : List Int) : ∀ i, (runR l i).Pairwise (fun x y => x.1 + x.2 < y.1)
  | 0 => List.Pairwise.nil
  | i + 1 => by
    have ih := runR_apart l i
    have hle := runR_le l i
    unfold runR
    by_cases hb : bitN l i = true
    · rw [if_pos hb]
      rcases List.eq_nil_or_concat (runR l i) with hP | ⟨Q, y, hP⟩
      · rw [hP]
        exact List.pairwise_singleton _ _
      · have hgl : (Q ++ [y]).getLast? = some y := by simp
        rw [hP, List.concat_eq_append] at ih hle ⊢
        rw [hgl]
        show List.Pairwise _ (if y.1 + y.2 = i then _ else _)
        rw [List.pairwise_append] at ih
        by_cases he : y.1 + y.2 = i
        · rw [if_pos he, List.dropLast_concat, List.pairwise_append]
          refine ⟨ih.1, List.pairwise_singleton _ _, fun a ha b hb => ?_⟩
          rw [List.mem_singleton.1 hb]
          exact ih.2.2 a ha y (List.mem_singleton.2 rfl)
        · rw [if_neg he, List.pairwise_append, List.pairwise_append]
          refine ⟨ih, List.pairwise_singleton _ _, fun a ha b hb => ?_⟩
          rw [List.mem_singleton.1 hb]
          have hy := hle y (by simp)
          rcases List.mem_append.1 ha with h | h
          · have := ih.2.2 a h y (List.mem_singleton.2 rfl)
            show a.1 + a.2 < i
            omega
          · rw [List.mem_singleton.1 h]
            show y.1 + y.2 < i
            omega
    · rw [if_neg hb]
      exact ih
end Go.Proofs.Ytifeimbamibkeaa.Pure
