/- The slots of any class, and all classes, no more than are asked for; for every number of a class and every count of rounds. -/
import Derived.Test.YtgcgkhgmmphggaaSlots
import Derived.Test.YtgcgkhgmmphggaaShapes
namespace Go.Proofs.Ytgcgkhgmmphggaa.Pure
open Go.RowKit Go.Proofs.Ytgcgkhgmmphggaa.PAll Go.Proofs.YtgcgkhgmmphggaaW.PrintWords Go.Proofs.YtgcgkhgmmphggaaW.PrintLast Go.Proofs.YtgcgkhgmmphggaaW.PrintMore

theorem slot_any (c : Int) : ∃ s, class_Slot.f c = some s ∧ atticref11_Slot.f 8 c = some s ∧ ((c < 0 ∨ c ≥ 6) ∨ (1 ≤ s ∧ s ≤ 1024)) := by
  by_cases h : c < 0 ∨ c ≥ 6
  · refine ⟨0, ?_, ?_, .inl h⟩
    · unfold class_Slot.f
      by_cases h0 : c < 0
      · rw [if_pos h0]
      · rw [if_neg h0, if_pos (by omega)]
    · unfold atticref11_Slot.f
      by_cases h0 : c < 0
      · rw [if_pos h0]
        rfl
      · rw [if_neg h0, decide_eq_true (by omega)]
        rfl
  · have hc : c = 0 ∨ c = 1 ∨ c = 2 ∨ c = 3 ∨ c = 4 ∨ c = 5 := by omega
    rcases hc with rfl | rfl | rfl | rfl | rfl | rfl
    · exact ⟨32, by decide +kernel, by decide +kernel, .inr (by decide)⟩
    · exact ⟨64, by decide +kernel, by decide +kernel, .inr (by decide)⟩
    · exact ⟨128, by decide +kernel, by decide +kernel, .inr (by decide)⟩
    · exact ⟨256, by decide +kernel, by decide +kernel, .inr (by decide)⟩
    · exact ⟨512, by decide +kernel, by decide +kernel, .inr (by decide)⟩
    · exact ⟨1024, by decide +kernel, by decide +kernel, .inr (by decide)⟩
theorem slots_any (c : Int) : ∃ u, class_Slots.f c = some u ∧ atticref11_Slots.f 8 c = some u := by
  obtain ⟨s, h1, h2, h3⟩ := slot_any c
  unfold class_Slots.f atticref11_Slots.f
  rw [h1, h2]
  by_cases h0 : c < 0
  · exact ⟨0, by rw [if_pos h0], by rw [if_pos h0]⟩
  · by_cases h6 : c ≥ 6
    · exact ⟨0, by rw [if_neg h0, if_pos h6], by rw [if_neg h0, if_pos h6]⟩
    · refine ⟨wrap64 (Int.tdiv 1024 s), ?_, ?_⟩ <;> rw [if_neg h0, if_neg h6, Option.bind_some, if_neg (by omega)]
theorem ClassSlots (c most : Int) (w : World) (_ : (Lit.int .i64 c).wf = true) (w1 : (Lit.int .u8 most).wf = true) :
    Calls Try.prog 4 #[.int .i64 c, .int .u8 most] w fun e w' => e = .returned (.bool true) ∧ Below w.heap.size w w' := by
  obtain ⟨s, hs, hs2, _⟩ := slot_any c
  obtain ⟨u, hu, hu2⟩ := slots_any c
  have hm : 0 ≤ most ∧ most ≤ 255 := by
    simp [Lit.wf, IntKind.min, IntKind.max, IntKind.signed, IntKind.bits] at w1
    omega
  exact Slots.calls 8 c most s u w hm live_true (fun j hj => slot_r 0 j hj) hs hs2 hu hu2
end Go.Proofs.Ytgcgkhgmmphggaa.Pure
