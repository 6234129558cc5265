/- Plain lemmas on shapes: which may be, how large objects are, their classes and places; for all shapes. -/
import Derived.Test.YtckdnkiacnonkaaLive
import Derived.Laws.BitsAllLaws
import Derived.Laws.Bits64
namespace Go.Proofs.Ytckdnkiacnonkaa.Pure
open Go.RowKit Go.Proofs.Ytckdnkiacnonkaa.PAll Go.Proofs.YtckdnkiacnonkaaW.PrintWords Go.Proofs.YtckdnkiacnonkaaW.PrintLast Go.Proofs.YtckdnkiacnonkaaW.PrintMore

/-! ### Which shapes may be, and how large they are -/
def chk (a b c : Int) : Int := if (1 ≤ a ∧ a ≤ 3) ∧ (0 ≤ b ∧ b ≤ 126) ∧ (0 ≤ c ∧ c ≤ 1008) ∧ (a = 3 → 1 ≤ b) then 0 else 110
theorem chk_w (a b c : Int) : class_Check.f a b c = some (chk a b c) := by
  unfold class_Check.f chk
  (repeat' split) <;> first | rfl | (exfalso; omega)
theorem chk_r (a b c : Int) : atticref11_Check.f a b c = some (chk a b c) := by
  unfold atticref11_Check.f chk
  (repeat' split) <;> first | rfl | (exfalso; omega)
theorem chk_ok {a b c : Int} (h : chk a b c = 0) : (1 ≤ a ∧ a ≤ 3) ∧ (0 ≤ b ∧ b ≤ 126) ∧ (0 ≤ c ∧ c ≤ 1008) ∧ (a = 3 → 1 ≤ b) := by
  unfold chk at h
  split at h
  · assumption
  · omega
theorem chk_or (a b c : Int) : chk a b c = 0 ∨ chk a b c = 110 := by unfold chk; split <;> simp
def sizeN (a b c : Int) : Int := if chk a b c = 0 then 16 + 8 * b + c else 0
theorem size_w (a b c : Int) : class_Size.f a b c = some (sizeN a b c) := by
  unfold class_Size.f sizeN
  rw [chk_w]
  simp only [Option.bind_some]
  by_cases h : chk a b c = 0
  · rw [if_pos h, if_pos h]
    have := chk_ok h
    unfold wrap64
    congr 1
    omega
  · rw [if_neg h, if_neg h]
theorem size_r (a b c : Int) : atticref11_Size.f a b c = some (sizeN a b c) := by
  unfold atticref11_Size.f sizeN
  rw [chk_r]
  simp only [Option.bind_some]
  by_cases h : chk a b c = 0
  · rw [if_pos h, if_pos h]
    have := chk_ok h
    unfold wrap64
    congr 1
    omega
  · rw [if_neg h, if_neg h]
theorem slot_r (m c : Nat) (h : c < 6) : atticref11_Slot.f (m + 8) (c : Int) = some (class_Of.slot c) := by
  have hc : c = 0 ∨ c = 1 ∨ c = 2 ∨ c = 3 ∨ c = 4 ∨ c = 5 := by omega
  refine at_rounds (g := fun k => atticref11_Slot.f k (c : Int)) (fun k => atticref11_Slot.mono _ k) (k := 8) (by omega) ?_
  rcases hc with rfl | rfl | rfl | rfl | rfl | rfl <;> decide +kernel
theorem of_w (a b c : Int) : class_Of.f a b c = some (if chk a b c = 0 then class_Of.ofN (sizeN a b c) else (0, chk a b c)) := by
  unfold class_Of.f
  rw [chk_w, size_w]
  simp only [Option.bind_some]
  split <;> rfl
theorem of_r (m : Nat) (a b c : Int) : atticref11_Of.f (m + 20) a b c = some (if chk a b c = 0 then class_Of.ofN (sizeN a b c) else (0, chk a b c)) := by
  unfold atticref11_Of.f
  rw [chk_r]
  simp only [Option.bind_some]
  by_cases h : chk a b c = 0
  · rw [if_pos h, if_pos h]
    have e : ∀ (k i : Nat), i < 6 → atticref11_Of.l0 (k + 8 + 1) (i : Int) a b c = if sizeN a b c ≤ class_Of.slot i then some ((i : Int), 0) else atticref11_Of.l0 (k + 8) ((i + 1 : Nat) : Int) a b c := by
      intro k i hi
      rw [atticref11_Of.l0, if_pos (by omega), size_r, slot_r k i hi]
      simp only [Option.bind_some]
      rw [show wrap64 ((i : Int) + 1) = ((i + 1 : Nat) : Int) by unfold wrap64; omega]
    have e0 := e (m + 11) 0 (by omega)
    have e1 := e (m + 10) 1 (by omega)
    have e2 := e (m + 9) 2 (by omega)
    have e3 := e (m + 8) 3 (by omega)
    have e4 := e (m + 7) 4 (by omega)
    have e5 := e (m + 6) 5 (by omega)
    have e6 : atticref11_Of.l0 (m + 6 + 8) ((5 + 1 : Nat) : Int) a b c = some (0, 111) := by
      show atticref11_Of.l0 (m + 13 + 1) 6 a b c = _
      rw [atticref11_Of.l0, if_neg (by omega)]
    show atticref11_Of.l0 (m + 11 + 8 + 1) ((0 : Nat) : Int) a b c = _
    rw [e0]
    show (if _ then _ else atticref11_Of.l0 (m + 10 + 8 + 1) ((1 : Nat) : Int) a b c) = _
    rw [e1]
    show (if _ then _ else if _ then _ else atticref11_Of.l0 (m + 9 + 8 + 1) ((2 : Nat) : Int) a b c) = _
    rw [e2]
    show (if _ then _ else if _ then _ else if _ then _ else atticref11_Of.l0 (m + 8 + 8 + 1) ((3 : Nat) : Int) a b c) = _
    rw [e3]
    show (if _ then _ else if _ then _ else if _ then _ else if _ then _ else atticref11_Of.l0 (m + 7 + 8 + 1) ((4 : Nat) : Int) a b c) = _
    rw [e4]
    show (if _ then _ else if _ then _ else if _ then _ else if _ then _ else if _ then _ else atticref11_Of.l0 (m + 6 + 8 + 1) ((5 : Nat) : Int) a b c) = _
    rw [e5, e6]
    unfold class_Of.ofN
    show (if sizeN a b c ≤ 32 then _ else if sizeN a b c ≤ 64 then _ else if sizeN a b c ≤ 128 then _ else if sizeN a b c ≤ 256 then _ else if sizeN a b c ≤ 512 then _ else if sizeN a b c ≤ 1024 then _ else _) = _
    (repeat' split) <;> rfl
  · rw [if_neg h, if_neg h]
end Go.Proofs.Ytckdnkiacnonkaa.Pure
