/- Plain lemmas on an object's bytes -/
import Derived.Test.YtckdnkiacnonkaaLive
import Derived.Test.YtckdnkiacnonkaaShapes
import Derived.Test.YtckdnkiacnonkaaGet
import Derived.Test.YtckdnkiacnonkaaHeads
import Derived.Laws.BitsAllLaws
import Derived.Laws.Bits64
namespace Go.Proofs.Ytckdnkiacnonkaa.Pure
open Go.RowKit Go.Proofs.Ytckdnkiacnonkaa.PAll Go.Proofs.YtckdnkiacnonkaaW.PrintWords Go.Proofs.YtckdnkiacnonkaaW.PrintLast Go.Proofs.YtckdnkiacnonkaaW.PrintMore

theorem OF_cls {a b c : Int} (h : (OF a b c).2 = 0) : ∃ n : Nat, n < 6 ∧ (OF a b c).1 = (n : Int) := by
  have hc := OF_chk h
  unfold OF at h ⊢
  rw [if_pos hc] at h ⊢
  unfold class_Of.ofN at h ⊢
  split
  · exact ⟨0, by decide, rfl⟩
  split
  · exact ⟨1, by decide, rfl⟩
  split
  · exact ⟨2, by decide, rfl⟩
  split
  · exact ⟨3, by decide, rfl⟩
  split
  · exact ⟨4, by decide, rfl⟩
  split
  · exact ⟨5, by decide, rfl⟩
  · exfalso
    revert h
    repeat rw [if_neg (by omega)]
    decide
theorem slot_bd (n : Nat) (h : n < 6) : ∃ s : Nat, class_Of.slot n = (s : Int) ∧ 32 ≤ s ∧ s ≤ 1024 := by
  have hc : n = 0 ∨ n = 1 ∨ n = 2 ∨ n = 3 ∨ n = 4 ∨ n = 5 := by omega
  rcases hc with rfl | rfl | rfl | rfl | rfl | rfl
  · exact ⟨32, by decide, by decide, by decide⟩
  · exact ⟨64, by decide, by decide, by decide⟩
  · exact ⟨128, by decide, by decide, by decide⟩
  · exact ⟨256, by decide, by decide, by decide⟩
  · exact ⟨512, by decide, by decide, by decide⟩
  · exact ⟨1024, by decide, by decide, by decide⟩
theorem hdL_length (a b c g : Int) : (hdL a b c g).length = 16 := by
  unfold hdL
  simp [numL_length]
def SL (a b c : Int) : Nat := (class_Of.slot (OF a b c).1.toNat).toNat
def MK (a b c g : Int) : List Int × Int := if (HD a b c g).2 = 0 then ((HD a b c g).1 ++ List.replicate (SL a b c - 16) 0, 0) else ([], (HD a b c g).2)
theorem HD_OF {a b c g : Int} (h : (HD a b c g).2 = 0) : (OF a b c).2 = 0 ∧ (HD a b c g).1 = hdL a b c g := by
  unfold HD at h ⊢
  by_cases h0 : (OF a b c).2 = 0
  · rw [if_pos h0] at h ⊢
    by_cases h1 : 1 ≤ g ∧ g ≤ 1099511627776
    · rw [if_pos h1]
      exact ⟨h0, rfl⟩
    · rw [if_neg h1] at h
      exact absurd h (by decide : ¬ ((1 : Int) = 0))
  · rw [if_neg h0] at h
    exact absurd h h0
theorem SL_of {a b c : Int} (h : (OF a b c).2 = 0) : ∃ n s : Nat, n < 6 ∧ (OF a b c).1 = (n : Int) ∧ class_Of.slot n = (s : Int) ∧ SL a b c = s ∧ 32 ≤ s ∧ s ≤ 1024 := by
  obtain ⟨n, hn, e⟩ := OF_cls h
  obtain ⟨s, hs, h1, h2⟩ := slot_bd n hn
  refine ⟨n, s, hn, e, hs, ?_, h1, h2⟩
  unfold SL
  rw [e, Int.toNat_natCast, hs, Int.toNat_natCast]
theorem make_w (k : Nat) (a b c g : Int) (hk : 40 ≤ k) : object_Make.f k a b c g = some (MK a b c g) := by
  unfold object_Make.f
  rw [head_w k a b c g hk]
  show (if (HD a b c g).2 = 0 then _ else _) = _
  unfold MK
  split
  · rename_i h
    obtain ⟨h0, h1⟩ := HD_OF h
    obtain ⟨n, s, hn, e, hs, hsl, s1, s2⟩ := SL_of h0
    rw [of_w]
    show (class_Slot.f (OF a b c).1).bind _ = _
    rw [e, class_Of.slotf n hn, hs, h1, hsl]
    simp only [Option.bind_some]
    rw [if_pos (by omega), Int.toNat_natCast, if_pos (by omega)]
    have hl := hdL_length a b c g
    generalize hdL a b c g = H at hl
    rw [List.length_replicate, hl, List.take_zero, List.nil_append, List.take_of_length_le (by omega), List.drop_replicate]
  · rfl
theorem rmake_l0 (n s : Nat) (hn : n < 6) (hs : class_Of.slot n = (s : Int)) (hb : s ≤ 1024) (d : Nat) : ∀ (k : Nat) (x : List Int), x.length + d = s → d + 10 ≤ k → atticref13_Make.l0 k x (n : Int) = some (x ++ List.replicate d 0, 0) := by
  induction d with
  | zero =>
    intro k x hx hk
    obtain ⟨k, rfl⟩ : ∃ m, k = m + 8 + 1 := ⟨k - 9, by omega⟩
    rw [atticref13_Make.l0, slot_r k n hn, hs]
    simp only [Option.bind_some]
    rw [if_neg (by omega)]
    simp
  | succ d ih =>
    intro k x hx hk
    obtain ⟨k, rfl⟩ : ∃ m, k = m + 8 + 1 := ⟨k - 9, by omega⟩
    rw [atticref13_Make.l0, slot_r k n hn, hs]
    simp only [Option.bind_some]
    rw [if_pos (by omega), if_pos (by omega), ih (k + 8) (x ++ [0]) (by simp; omega) (by omega), List.append_assoc]
    rfl
theorem make_r (k : Nat) (a b c g : Int) (hk : 1100 ≤ k) : atticref13_Make.f k a b c g = some (MK a b c g) := by
  unfold atticref13_Make.f
  rw [head_r k a b c g (by omega)]
  show (if (HD a b c g).2 = 0 then _ else _) = _
  unfold MK
  split
  · rename_i h
    obtain ⟨h0, h1⟩ := HD_OF h
    obtain ⟨n, s, hn, e, hs, hsl, s1, s2⟩ := SL_of h0
    obtain ⟨m, rfl⟩ : ∃ m, k = m + 20 := ⟨k - 20, by omega⟩
    rw [of_r]
    show atticref13_Make.l0 (m + 20) (HD a b c g).1 (OF a b c).1 = _
    rw [e, h1, hsl]
    exact rmake_l0 n s hn hs s2 (s - 16) _ _ (by rw [hdL_length]; omega) (by omega)
  · rfl
end Go.Proofs.Ytckdnkiacnonkaa.Pure
