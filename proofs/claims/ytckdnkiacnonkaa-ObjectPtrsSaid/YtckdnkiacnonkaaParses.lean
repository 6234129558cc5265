/- What a parse says of any bytes: the shape and the number, if the bytes are those of an object; plain. -/
import Derived.Test.YtckdnkiacnonkaaLive
import Derived.Test.YtckdnkiacnonkaaShapes
import Derived.Test.YtckdnkiacnonkaaNum
import Derived.Test.YtckdnkiacnonkaaGet
import Derived.Test.YtckdnkiacnonkaaHeads
import Derived.Test.YtckdnkiacnonkaaMakes
import Derived.Test.YtckdnkiacnonkaaSame
namespace Go.Proofs.Ytckdnkiacnonkaa.Pure
open Go.RowKit Go.Proofs.Ytckdnkiacnonkaa.PAll Go.Proofs.YtckdnkiacnonkaaW.PrintWords Go.Proofs.YtckdnkiacnonkaaW.PrintLast Go.Proofs.YtckdnkiacnonkaaW.PrintMore

/-- The bytes are those of an object of that shape and number. -/
structure Parsed (l : List Int) (a b c g : Int) : Prop where
  long : 16 ≤ l.length
  head : (HD a b c g).2 = 0
  same : hdL a b c g = l.take 16
  slot : l.length = SL a b c
def pa (l : List Int) : Int := wrap64 (rd l 0)
def pb (l : List Int) : Int := wrap64 (rd l 1)
def pc (l : List Int) : Int := wrap64 (getA l 2 2).1
def pg (l : List Int) : Int := wrap64 (getA l 8 8).1
theorem parse_yes (k : Nat) (l : List Int) (hb : Bytes l) (hl : l.length ≤ 140737488351232) (hk : 1200 ≤ k) (h : Parsed l (pa l) (pb l) (pc l) (pg l)) :
    object_Parse.f k l = some (pa l, pb l, pc l, pg l, 0) ∧ atticref13_Parse.f k l = some (pa l, pb l, pc l, pg l, 0) := by
  obtain ⟨h1, h2, h3, h4⟩ := h
  unfold object_Parse.f atticref13_Parse.f pa pb pc pg at *
  have g2 := get_f k l 2 2 hb (by omega) (by omega)
  have g8 := get_f k l 8 8 hb (by omega) (by omega)
  rw [if_neg (by omega), if_neg (by omega), g2.1, g2.2, g8.1, g8.2]
  simp only [Option.bind_some]
  rw [if_pos (by omega : 0 < (l.length : Int)), if_pos (by omega : 1 < (l.length : Int)), if_pos (by omega : 0 < (l.length : Int)), if_pos (by omega : 1 < (l.length : Int))]
  clear g2 g8
  generalize wrap64 (rd l 0) = a at *
  generalize wrap64 (rd l 1) = b at *
  generalize wrap64 (getA l 2 2).1 = c at *
  generalize (getA l 8 8).1 = v at *
  rw [head_w k a b c _ (by omega), head_r k a b c _ (by omega)]
  simp only [Option.bind_some]
  obtain ⟨m, rfl⟩ : ∃ m, k = m + 20 := ⟨k - 20, by omega⟩
  rw [of_r]
  show _ ∧ (if (HD a b c (wrap64 v)).2 = 0 then (if (OF a b c).2 = 0 then _ else _) else _) = _
  obtain ⟨h0, h5⟩ := HD_OF h2
  obtain ⟨n, s, hn, e, hs, hsl, s1, s2⟩ := SL_of h0
  have ht : (l.take 16).length = 16 := by rw [List.length_take]; omega
  rw [if_pos h2, if_pos h2, if_pos h0, if_pos (by omega : 16 ≤ (l.length : Int)), if_pos (by omega : 16 ≤ (l.length : Int)), h5, equal_f _ _ (hdL_bytes _ _ _ _) (fun x hx => hb x (List.mem_of_mem_take hx)), same_f _ _ _ (by rw [hdL_length, ht]) (by rw [hdL_length]; decide) (by omega)]
  simp only [Option.bind_some]
  rw [show m + 20 = (m + 19) + 1 from rfl, object_Parse.j0]
  rw [decide_eq_true h3, if_neg (by decide), of_w]
  show (class_Slot.f (OF a b c).1).bind _ = _ ∧ (atticref11_Slot.f _ (OF a b c).1).bind _ = _
  rw [e, class_Of.slotf n hn, show m + 19 + 1 = (m + 12) + 8 from rfl, slot_r (m + 12) n hn]
  simp only [Option.bind_some]
  rw [if_pos (by rw [hs, h4, hsl])]
  exact ⟨rfl, rfl⟩
theorem parse_no (k : Nat) (l : List Int) (hb : Bytes l) (hl : l.length ≤ 140737488351232) (hk : 1200 ≤ k) (h : ¬ Parsed l (pa l) (pb l) (pc l) (pg l)) :
    object_Parse.f k l = some (0, 0, 0, 0, 130) ∧ atticref13_Parse.f k l = some (0, 0, 0, 0, 130) := by
  unfold object_Parse.f atticref13_Parse.f pa pb pc pg at *
  by_cases h16 : (l.length : Int) < 16
  · rw [if_pos h16, if_pos h16]
    exact ⟨rfl, rfl⟩
  · have g2 := get_f k l 2 2 hb (by omega) (by omega)
    have g8 := get_f k l 8 8 hb (by omega) (by omega)
    rw [if_neg h16, if_neg h16, g2.1, g2.2, g8.1, g8.2]
    simp only [Option.bind_some]
    rw [if_pos (by omega : 0 < (l.length : Int)), if_pos (by omega : 1 < (l.length : Int)), if_pos (by omega : 0 < (l.length : Int)), if_pos (by omega : 1 < (l.length : Int))]
    clear g2 g8
    generalize wrap64 (rd l 0) = a at *
    generalize wrap64 (rd l 1) = b at *
    generalize wrap64 (getA l 2 2).1 = c at *
    generalize (getA l 8 8).1 = v at *
    rw [head_w k a b c _ (by omega), head_r k a b c _ (by omega)]
    simp only [Option.bind_some]
    obtain ⟨m, rfl⟩ : ∃ m, k = m + 20 := ⟨k - 20, by omega⟩
    rw [of_r]
    show _ ∧ (if (HD a b c (wrap64 v)).2 = 0 then (if (OF a b c).2 = 0 then _ else _) else _) = _
    by_cases h2 : (HD a b c (wrap64 v)).2 = 0
    · obtain ⟨h0, h1⟩ := HD_OF h2
      obtain ⟨n, s, hn, e, hs, hsl, s1, s2⟩ := SL_of h0
      have ht : (l.take 16).length = 16 := by rw [List.length_take]; omega
      rw [if_pos h2, if_pos h2, if_pos h0, if_pos (by omega : 16 ≤ (l.length : Int)), if_pos (by omega : 16 ≤ (l.length : Int)), h1, equal_f _ _ (hdL_bytes _ _ _ _) (fun x hx => hb x (List.mem_of_mem_take hx)), same_f _ _ _ (by rw [hdL_length, ht]) (by rw [hdL_length]; decide) (by omega)]
      simp only [Option.bind_some]
      rw [show m + 20 = (m + 19) + 1 from rfl, object_Parse.j0]
      by_cases hq : hdL a b c (wrap64 v) = l.take 16
      · rw [decide_eq_true hq, if_neg (by decide), of_w]
        show (class_Slot.f (OF a b c).1).bind _ = _ ∧ (atticref11_Slot.f _ (OF a b c).1).bind _ = _
        rw [e, class_Of.slotf n hn, show m + 19 + 1 = (m + 12) + 8 from rfl, slot_r (m + 12) n hn]
        simp only [Option.bind_some]
        by_cases hz : (l.length : Int) = class_Of.slot n
        · exact absurd ⟨by omega, h2, hq, by rw [hsl]; omega⟩ h
        · rw [if_neg hz]
          exact ⟨rfl, rfl⟩
      · rw [decide_eq_false hq, if_pos (by decide), if_neg (by decide)]
        exact ⟨rfl, rfl⟩
    · rw [if_neg h2, if_neg h2, show m + 20 = (m + 19) + 1 from rfl, object_Parse.j0, if_pos rfl]
      exact ⟨rfl, rfl⟩
/-- What a shape that was parsed is like. -/
theorem Parsed.shape {l : List Int} {a b c g : Int} (h : Parsed l a b c g) : chk a b c = 0 ∧ (OF a b c).2 = 0 ∧ 1 ≤ g ∧ g ≤ 1099511627776 ∧ 16 + 8 * b + c ≤ (l.length : Int) ∧ l.length ≤ 1024 := by
  obtain ⟨h0, h1⟩ := HD_OF h.head
  obtain ⟨n, s, hn, e, hs, hsl, s1, s2⟩ := SL_of h0
  have hc := OF_chk h0
  have hg : 1 ≤ g ∧ g ≤ 1099511627776 := by
    have := h.head
    unfold HD at this
    rw [if_pos h0] at this
    by_cases hh : 1 ≤ g ∧ g ≤ 1099511627776
    · exact hh
    · rw [if_neg hh] at this
      exact absurd this (by decide : ¬ ((1 : Int) = 0))
  refine ⟨hc, h0, hg.1, hg.2, ?_, by rw [h.slot, hsl]; exact s2⟩
  rw [h.slot, hsl, ← hs]
  have h6 : (OF a b c) = class_Of.ofN (16 + 8 * b + c) := by
    unfold OF sizeN
    rw [if_pos hc, if_pos hc]
  rw [h6] at e h0
  generalize 16 + 8 * b + c = z at e h0 ⊢
  clear h6 h1 hsl h hs
  unfold class_Of.ofN at e h0
  split at e
  · obtain rfl : n = 0 := by simp at e; omega
    show z ≤ 32 * 2 ^ 0
    omega
  split at e
  · obtain rfl : n = 1 := by simp at e; omega
    show z ≤ 32 * 2 ^ 1
    omega
  split at e
  · obtain rfl : n = 2 := by simp at e; omega
    show z ≤ 32 * 2 ^ 2
    omega
  split at e
  · obtain rfl : n = 3 := by simp at e; omega
    show z ≤ 32 * 2 ^ 3
    omega
  split at e
  · obtain rfl : n = 4 := by simp at e; omega
    show z ≤ 32 * 2 ^ 4
    omega
  split at e
  · obtain rfl : n = 5 := by simp at e; omega
    show z ≤ 32 * 2 ^ 5
    omega
  · exfalso
    revert h0
    repeat rw [if_neg (by omega)]
    decide
end Go.Proofs.Ytckdnkiacnonkaa.Pure
