/- Plain laws of the document's runs; for all rows up to a million bytes. -/
import Derived.Test.YtifeimbamibkeaaTold
namespace Go.Proofs.Ytifeimbamibkeaa.Pure
open Go.RowKit Go.Proofs.Ytifeimbamibkeaa.PAll Go.Proofs.YtifeimbamibkeaaW.PrintWords Go.Proofs.YtifeimbamibkeaaW.PrintLast Go.Proofs.YtifeimbamibkeaaW.PrintMore
set_option linter.unusedVariables false

theorem runS_length (l : List Int) (i : Nat) : (runS l i).length = (runR l i).length := by simp [runS]
theorem runS_le (l : List Int) (i : Nat) : (runS l i).length ≤ i := by rw [runS_length]; exact runR_length l i
/-- How far runs are looked for. -/
def upto (l : List Int) (n : Int) : Nat := (min n (8 * (l.length : Int))).toNat
def S1 (a b : Nat) : S42 := ⟨(a : Int), (b : Int)⟩
theorem rd_last (Q : List S42) (x : S42) : rd_T42 (Q ++ [x]) (Q.length : Int) = x := by
  unfold rd_T42
  rw [Int.toNat_natCast, List.getD_eq_getElem?_getD, List.getElem?_append_right (Nat.le_refl _), Nat.sub_self]
  rfl
theorem rruns_l0 (l : List Int) (n : Int) (hb : Bytes l) (hl : l.length ≤ 1000000) (d : Nat) : ∀ (i k : Nat), i + d = upto l n → 2 * d + 2 ≤ k → atticref02_Runs.l0 k l n (runS l i) (i : Int) = some (runS l (upto l n)) := by
  induction d with
  | zero =>
    intro i k hi hk
    obtain ⟨k, rfl⟩ : ∃ m, k = m + 2 := ⟨k - 2, by omega⟩
    rw [atticref02_Runs.l0, m8 (by omega)]
    have hj : atticref02_Runs.j1 (k + 1) l n (runS l i) (i : Int) false = some (runS l (upto l n)) := by
      rw [atticref02_Runs.j1, if_neg (by decide), ← hi, Nat.add_zero]
    by_cases h : (i : Int) < n
    · rw [if_pos h, decide_eq_false (by unfold upto at hi; omega), hj]
    · rw [if_neg h, hj]
  | succ d ih =>
    intro i k hi hk
    obtain ⟨k, rfl⟩ : ∃ m, k = m + 2 := ⟨k - 2, by omega⟩
    have h1 : (i : Int) < n := by unfold upto at hi; omega
    have h2 : i < 8 * l.length := by unfold upto at hi; omega
    have hlen := runS_le l i
    have hih := ih (i + 1) k (by omega) (by omega)
    rw [atticref02_Runs.l0, m8 (by omega), if_pos h1, decide_eq_true (by omega), atticref02_Runs.j1, if_pos rfl, rg l i hb (by omega) (by omega), Option.bind_some, succ64 (by omega)]
    by_cases hc : bitN l i = true
    · rw [if_pos hc]
      rcases List.eq_nil_or_concat (runR l i) with hP | ⟨Q, x, hP⟩
      · have h0 : runS l i = [] := by unfold runS; rw [hP]; rfl
        have hs : runS l (i + 1) = [] ++ [(⟨(i : Int), 1⟩ : S42)] := by
          unfold runS
          rw [runR, if_pos hc, hP]
          rfl
        rw [h0, show wrap64 ((([] : List S42).length : Int) - 1) = -1 from by decide +kernel, if_neg (by decide), if_pos (by decide), ← hs]
        exact hih
      · have hx := runR_le l i x (by rw [hP]; simp)
        have h0 : runS l i = (Q.map enc).map mkS ++ [S1 x.1 x.2] := by unfold runS; rw [hP]; simp [S1, mkS, enc]
        have hql : ((Q.map enc).map mkS).length = Q.length := by simp
        have hQ : Q.length + 1 ≤ i := by rw [h0, List.length_append, hql] at hlen; exact hlen
        have hw : wrap64 (((((Q.map enc).map mkS ++ [S1 x.1 x.2]).length : Nat) : Int) - 1) = (((Q.map enc).map mkS).length : Int) := by
          rw [List.length_append, hql, List.length_singleton, w64id (by omega) (by omega)]; omega
        have hgl : (Q ++ [x]).getLast? = some x := by simp
        rw [h0, hw, if_pos (by omega), if_pos (by omega), if_pos (by rw [List.length_append, List.length_singleton]; omega), rd_last]
        show (if wrap64 ((x.1 : Int) + (x.2 : Int)) = (i : Int) then _ else _) = _
        rw [w64id (by omega) (by omega)]
        by_cases he : x.1 + x.2 = i
        · have hs : runS l (i + 1) = (Q.map enc).map mkS ++ [S1 x.1 (x.2 + 1)] := by
            unfold runS
            rw [runR, if_pos hc, hP, List.concat_eq_append, hgl]
            show List.map mkS (List.map enc (if x.1 + x.2 = i then _ else _)) = _
            rw [if_pos he, List.dropLast_concat]
            simp [S1, mkS, enc]
          rw [if_pos (by omega), Int.toNat_natCast, List.set_append_right _ _ (Nat.le_refl _), Nat.sub_self]
          show atticref02_Runs.l0 k l n ((Q.map enc).map mkS ++ [(⟨(x.1 : Int), wrap64 ((x.2 : Int) + 1)⟩ : S42)]) _ = _
          rw [succ64 (by omega)]
          rw [hs] at hih
          exact hih
        · have hs : runS l (i + 1) = (Q.map enc).map mkS ++ [S1 x.1 x.2] ++ [(⟨(i : Int), 1⟩ : S42)] := by
            rw [← h0]
            unfold runS
            rw [runR, if_pos hc, hP, List.concat_eq_append, hgl]
            show List.map mkS (List.map enc (if x.1 + x.2 = i then _ else _)) = _
            rw [if_neg he]
            simp [mkS, enc]
          rw [if_neg (by omega), if_pos (by rw [List.length_append, hql, List.length_singleton]; omega), ← hs]
          exact hih
    · have hs : runS l (i + 1) = runS l i := by unfold runS; rw [runR, if_neg hc]
      rw [if_neg hc, ← hs]
      exact hih
theorem rruns_f (l : List Int) (n : Int) (hb : Bytes l) (hl : l.length ≤ 1000000) : atticref02_Runs.f (2 * upto l n + 2) l n = some (runS l (upto l n)) :=
  rruns_l0 l n hb hl (upto l n) 0 _ (by omega) (Nat.le_refl _)
theorem runs_self (l : List S42) (hn : l.length ≤ 8796093022208) (d : Nat) : ∀ (i k : Nat), i + d = l.length → d < k → atticref02_Run.l0 k l l (l.length : Int) (i : Int) = some true := by
  induction d with
  | zero =>
    intro i k hi hk
    obtain ⟨k, rfl⟩ : ∃ m, k = m + 1 := ⟨k - 1, by omega⟩
    rw [atticref02_Run.l0, if_neg (by omega)]
  | succ d ih =>
    intro i k hi hk
    obtain ⟨k, rfl⟩ : ∃ m, k = m + 1 := ⟨k - 1, by omega⟩
    rw [atticref02_Run.l0, if_pos (by omega), if_pos (by omega), if_pos (by omega), if_pos (by omega), if_neg (by simp), succ64 (by omega)]
    exact ih (i + 1) k (by omega) (by omega)
theorem run_self (l : List S42) (hn : l.length ≤ 8796093022208) : atticref02_Run.f (l.length + 1) l l = some true := by
  unfold atticref02_Run.f
  rw [if_pos rfl]
  exact runs_self l hn l.length 0 _ (by omega) (Nat.lt_succ_self _)
end Go.Proofs.Ytifeimbamibkeaa.Pure
