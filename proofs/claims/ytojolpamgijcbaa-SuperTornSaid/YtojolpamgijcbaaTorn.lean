/- A torn write: plain lemmas. -/
import Derived.Test.YtojolpamgijcbaaCh3
namespace Go.Proofs.Ytojolpamgijcbaa.Pure
open Go.RowKit Go.Proofs.Ytojolpamgijcbaa Go.Proofs.Ytojolpamgijcbaa.PAll Go.Proofs.Ytojolpamgijcbaa.PGt Go.Proofs.Ytojolpamgijcbaa.Mem Go.Proofs.YtojolpamgijcbaaW.PrintWords Go.Proofs.YtojolpamgijcbaaW.PrintLast Go.Proofs.YtojolpamgijcbaaW.PrintMore
set_option linter.unusedVariables false
set_option linter.unusedSimpArgs false

theorem next_ok {a0 a1 a2 a3 a4 a5 h : Int} {n0 n1 n2 n3 n4 n5 ne : Int} (hn : super_Next.f 2 a0 a1 a2 a3 a4 a5 h = some (n0, n1, n2, n3, n4, n5, ne)) (h0 : ne = 0) : n0 = a0 + 1 ∧ n1 = a1 ∧ n2 = a2 ∧ n3 = a3 ∧ n4 = a4 ∧ n5 = h ∧ super_Check.f a0 a1 a2 a3 a4 a5 = some 0 ∧ super_Check.f n0 n1 n2 n3 n4 n5 = some 0 := by
  unfold super_Next.f at hn
  obtain ⟨e, he, hn⟩ := Option.bind_eq_some_iff.1 hn
  by_cases e0 : e = 0
  · subst e0
    rw [if_pos rfl] at hn
    obtain ⟨hg, k1, k2, k3, k4⟩ := chk_ok he
    have key : ∀ x, super_Next.j0 2 h 0 x a0 a1 a2 a3 a4 a5 = some (n0, n1, n2, n3, n4, n5, ne) → x = false ∧ a0 ≠ 1152921504606846976 ∧ n0 = wrap64 (a0 + 1) ∧ n1 = a1 ∧ n2 = a2 ∧ n3 = a3 ∧ n4 = a4 ∧ n5 = h := by
      intro x hx
      change super_Next.j0 (1 + 1) h 0 x a0 a1 a2 a3 a4 a5 = _ at hx
      rw [super_Next.j0] at hx
      cases x
      · by_cases q : a0 = 1152921504606846976
        · rw [if_neg (by decide), if_pos q, if_neg (by decide)] at hx
          simp only [Option.some.injEq, Prod.mk.injEq] at hx
          omega
        · rw [if_neg (by decide), if_neg q, if_pos rfl] at hx
          simp only [Option.some.injEq, Prod.mk.injEq] at hx
          obtain ⟨d0, d1, d2, d3, d4, d5, _⟩ := hx
          exact ⟨rfl, q, d0.symm, d1.symm, d2.symm, d3.symm, d4.symm, d5.symm⟩
      · rw [if_pos rfl, if_neg (by decide)] at hx
        simp only [Option.some.injEq, Prod.mk.injEq] at hx
        omega
    by_cases hh : h < a5
    · rw [if_pos hh] at hn
      have := (key _ hn).1
      cases this
    · rw [if_neg hh] at hn
      obtain ⟨q1, q2, d0, d1, d2, d3, d4, d5⟩ := key _ hn
      have q3 := of_decide_eq_false q1
      rw [w64id (by omega) (by omega)] at d0
      refine ⟨d0, d1, d2, d3, d4, d5, he, ?_⟩
      subst d0 d1 d2 d3 d4 d5
      unfold super_Check.f
      rw [hg, Option.bind_some, if_pos rfl, if_neg (by omega), if_neg (by omega), if_neg (by omega), if_neg (by omega)]
  · rw [if_neg e0] at hn
    simp only [Option.some.injEq, Prod.mk.injEq] at hn
    exact absurd (hn.2.2.2.2.2.2.trans h0) e0
theorem slot_next {e : Int} (h : 1 ≤ e) : slotI (e + 1) ≠ slotI e := by unfold slotI; rw [if_neg (by omega), if_neg (by omega)]; omega
/-- The super ahead of another one. -/
theorem prev_ok {a0 a1 a2 a3 a4 a5 : Int} (h : super_Check.f a0 a1 a2 a3 a4 a5 = some 0) (h1 : 1 < a0) : super_Check.f (a0 - 1) a1 a2 a3 a4 a5 = some 0 := by
  obtain ⟨hg, k1, k2, k3, k4⟩ := chk_ok h
  unfold super_Check.f
  rw [hg, Option.bind_some, if_pos rfl, if_neg (by omega), if_neg (by omega), if_neg (by omega), if_neg (by omega)]
/-- A row over which another one is laid as far as a test says, up to a place. -/
def torn (o n : List Int) (P : Nat → Bool) (k : Nat) : List Int := (List.range o.length).map (fun j => if j < k ∧ P j = true then n.getD j 0 else o.getD j 0)
theorem torn_length (o n : List Int) (P : Nat → Bool) (k : Nat) : (torn o n P k).length = o.length := by simp [torn]
theorem torn_zero (o n : List Int) (P : Nat → Bool) : torn o n P 0 = o := by
  apply List.ext_getElem?
  intro i
  rcases Nat.lt_or_ge i o.length with h | h
  · simp [torn, h]
  · rw [List.getElem?_eq_none (by rw [torn_length]; exact h), List.getElem?_eq_none h]
theorem torn_get (o n : List Int) (P : Nat → Bool) (k i : Nat) (h : i < o.length) : (torn o n P k)[i]? = some (if i < k ∧ P i = true then n.getD i 0 else o.getD i 0) := by simp [torn, h]
theorem torn_no (o n : List Int) (P : Nat → Bool) (k : Nat) (h : P k = false) : torn o n P (k + 1) = torn o n P k := by
  apply List.ext_getElem?
  intro i
  rcases Nat.lt_or_ge i o.length with hi | hi
  · rw [torn_get o n P _ i hi, torn_get o n P _ i hi]
    congr 1
    by_cases e : i = k
    · subst e
      rw [if_neg (by rw [h]; simp), if_neg (by rw [h]; simp)]
    · by_cases c : P i = true
      · by_cases d : i < k
        · rw [if_pos ⟨by omega, c⟩, if_pos ⟨d, c⟩]
        · rw [if_neg (by omega), if_neg (by omega)]
      · rw [if_neg (fun q => c q.2), if_neg (fun q => c q.2)]
  · rw [List.getElem?_eq_none (by rw [torn_length]; exact hi), List.getElem?_eq_none (by rw [torn_length]; exact hi)]
theorem torn_yes (o n : List Int) (P : Nat → Bool) (k : Nat) (h : P k = true) (hk : k < o.length) : torn o n P (k + 1) = (torn o n P k).set k (n.getD k 0) := by
  apply List.ext_getElem?
  intro i
  rw [List.getElem?_set, torn_length]
  by_cases e : k = i
  · subst e
    rw [if_pos rfl, if_pos hk, torn_get o n P _ k hk, if_pos ⟨by omega, h⟩]
  · rw [if_neg e]
    rcases Nat.lt_or_ge i o.length with hi | hi
    · rw [torn_get o n P _ i hi, torn_get o n P _ i hi]
      congr 1
      by_cases c : P i = true
      · by_cases d : i < k
        · rw [if_pos ⟨by omega, c⟩, if_pos ⟨d, c⟩]
        · rw [if_neg (by omega), if_neg (by omega)]
      · rw [if_neg (fun q => c q.2), if_neg (fun q => c q.2)]
    · rw [List.getElem?_eq_none (by rw [torn_length]; exact hi), List.getElem?_eq_none (by rw [torn_length]; exact hi)]
theorem supB_far (a0 a1 a2 a3 a4 a5 : Int) (i : Nat) (h : 64 ≤ i) (h2 : i < 256) : (supB a0 a1 a2 a3 a4 a5).getD i 0 = 0 := by
  unfold supB
  rw [List.getD_eq_getElem?_getD, List.getElem?_append_right (by rw [seal_length, supS_length]; exact h), seal_length, supS_length, List.getElem?_replicate, if_pos (by omega)]
  rfl
/-- What has no bytes behind its first sector, over what has none there: the one, or the other. -/
theorem torn_all (o n : List Int) (P : Nat → Bool) (ho : o.length = 256) (hn : n.length = 256) (fo : ∀ i, 64 ≤ i → i < 256 → o.getD i 0 = 0) (fn : ∀ i, 64 ≤ i → i < 256 → n.getD i 0 = 0) (hP : ∀ i, i < 64 → P i = P 0) : torn o n P 256 = if P 0 = true then n else o := by
  apply List.ext_getElem?
  intro i
  rcases Nat.lt_or_ge i 256 with hi | hi
  · rw [torn_get o n P _ i (by omega)]
    rcases Nat.lt_or_ge i 64 with h6 | h6
    · rw [hP i h6]
      by_cases c : P 0 = true
      · rw [if_pos ⟨hi, c⟩, if_pos c, List.getD_eq_getElem?_getD, List.getElem?_eq_getElem (by omega)]; rfl
      · rw [if_neg (fun q => c q.2), if_neg c, List.getD_eq_getElem?_getD, List.getElem?_eq_getElem (by omega)]; rfl
    · rw [fo i h6 hi, fn i h6 hi]
      have e1 := fo i h6 hi
      have e2 := fn i h6 hi
      rw [List.getD_eq_getElem?_getD, List.getElem?_eq_getElem (by omega)] at e1 e2
      split <;> split <;> (rw [List.getElem?_eq_getElem (by omega)]; congr 1; first | exact e1.symm | exact e2.symm)
  · rw [List.getElem?_eq_none (by rw [torn_length]; omega)]
    split <;> rw [List.getElem?_eq_none (by omega)]
end Go.Proofs.Ytojolpamgijcbaa.Pure
