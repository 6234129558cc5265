/- A reader of bytes, as plain functions: what is left, and the first error. -/
import Derived.Test.YtnhihiadmllnkaaTake
import Derived.Test.YtnhihiadmllnkaaGet
namespace Go.Proofs.Ytnhihiadmllnkaa.Pure
open Go.RowKit Go.Proofs.Ytnhihiadmllnkaa.PAll Go.Proofs.YtnhihiadmllnkaaW.PrintWords Go.Proofs.YtnhihiadmllnkaaW.PrintLast Go.Proofs.YtnhihiadmllnkaaW.PrintMore
set_option linter.unusedVariables false
set_option linter.unusedSimpArgs false

/-- What a reader's number is, what is left then, and the error. -/
def nmR (L : List Int) (e n : Int) : Int × List Int × Int := if e ≠ 0 then (0, L, e) else if n < 1 ∨ n > 8 then (0, L, 1) else if n > L.length then (0, L, 10) else ((getL L 0 n.toNat : Int), L.drop n.toNat, 0)
def byR (L : List Int) (e n : Int) : List Int × List Int × Int := if e ≠ 0 then ([], L, e) else if n < 0 then ([], L, 1) else if n > L.length then ([], L, 10) else (L.take n.toNat, L.drop n.toNat, 0)
def uvR (L : List Int) (e : Int) : Int × List Int × Int := if e ≠ 0 then (0, L, e) else (((tk 0 0 L).1 : Int), L.drop (tk 0 0 L).2.1, ((tk 0 0 L).2.2 : Int))
def enR (L : List Int) (e : Int) : Int := if e ≠ 0 then e else if L.length > 0 then 12 else 0
theorem tk_le : ∀ (l : List Int) (i w : Nat), ((tk i w l).2.1 ≤ i + l.length) ∧ ((tk i w l).2.2 ≠ 0 → (tk i w l).1 = 0 ∧ (tk i w l).2.1 = 0)
  | [], i, w => by simp [tk]
  | c :: l, i, w => by
    rw [tk]
    by_cases hbad : (i = 9 ∧ c > 1) ∨ (i > 0 ∧ c = 0)
    · rw [if_pos hbad]
      simp
    · rw [if_neg hbad]
      by_cases hs : c < 128
      · rw [if_pos hs]
        simp
      · rw [if_neg hs]
        obtain ⟨h1, h2⟩ := tk_le l (i + 1) (w + c.toNat % 128 * 2 ^ (7 * i))
        exact ⟨by rw [List.length_cons]; omega, h2⟩
theorem tk_len (l : List Int) : (tk 0 0 l).2.1 ≤ l.length := by have := (tk_le l 0 0).1; omega
theorem tk_err {l : List Int} (h : (tk 0 0 l).2.2 ≠ 0) : (tk 0 0 l).1 = 0 ∧ (tk 0 0 l).2.1 = 0 := (tk_le l 0 0).2 h
theorem getL_drop (l : List Int) (p n : Nat) : getL l p n = getL (l.drop p) 0 n := by unfold getL; rw [List.drop_zero]
theorem nm_bytes {L : List Int} (e n : Int) (h : Bytes L) : Bytes (nmR L e n).2.1 := by
  unfold nmR
  split
  · exact h
  · split
    · exact h
    · split
      · exact h
      · exact fun x hx => h x (List.mem_of_mem_drop hx)
theorem by_bytes {L : List Int} (e n : Int) (h : Bytes L) : Bytes (byR L e n).2.1 ∧ Bytes (byR L e n).1 := by
  unfold byR
  split
  · exact ⟨h, fun x hx => by cases hx⟩
  · split
    · exact ⟨h, fun x hx => by cases hx⟩
    · split
      · exact ⟨h, fun x hx => by cases hx⟩
      · exact ⟨fun x hx => h x (List.mem_of_mem_drop hx), fun x hx => h x (List.mem_of_mem_take hx)⟩
theorem uv_bytes2 {L : List Int} (e : Int) (h : Bytes L) : Bytes (uvR L e).2.1 := by
  unfold uvR
  split
  · exact h
  · exact fun x hx => h x (List.mem_of_mem_drop hx)
theorem nm_len (L : List Int) (e n : Int) : (nmR L e n).2.1.length ≤ L.length := by
  unfold nmR
  split
  · exact Nat.le_refl _
  · split
    · exact Nat.le_refl _
    · split
      · exact Nat.le_refl _
      · simp
theorem by_len (L : List Int) (e n : Int) : (byR L e n).2.1.length ≤ L.length := by
  unfold byR
  split
  · exact Nat.le_refl _
  · split
    · exact Nat.le_refl _
    · split
      · exact Nat.le_refl _
      · simp
theorem uv_len2 (L : List Int) (e : Int) : (uvR L e).2.1.length ≤ L.length := by
  unfold uvR
  split
  · exact Nat.le_refl _
  · simp
end Go.Proofs.Ytnhihiadmllnkaa.Pure
