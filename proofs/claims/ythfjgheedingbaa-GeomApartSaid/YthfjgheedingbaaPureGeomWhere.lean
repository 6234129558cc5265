/- The law GeomWhere, over numbers alone: in which area any block lies, and which one it is there, are the document's; for all geometries and blocks. -/
import Derived.Test.YthfjgheedingbaaPAllx7
import Derived.Test.YthfjgheedingbaaPlan
import Derived.Laws.BitsAllLaws
import Derived.Laws.Bits64
namespace Go.Proofs.Ythfjgheedingbaa.Pure
open Go.RowKit Go.Proofs.Ythfjgheedingbaa.PAll Go.Proofs.YthfjgheedingbaaW.PrintWords Go.Proofs.YthfjgheedingbaaW.PrintLast Go.Proofs.YthfjgheedingbaaW.PrintMore

theorem where_l0 (d : Nat) : ∀ (k : Nat) (x : Int) (bs : List Int) (i : Nat), bs.length = 8 → i + d = 8 → d + 1 ≤ k → (∀ j, 0 ≤ bs.getD j 0 ∧ bs.getD j 0 ≤ 3000) → 0 ≤ x → x ≤ 3000 →
    atticref04_Where.l0 k x bs (geom_Where.ar bs x i : Nat) i = some (((geom_Where.ar bs x 8 : Nat) : Int), wrap64 (x - bs.getD (geom_Where.ar bs x 8) 0), 0) := by
  induction d with
  | zero =>
    intro k x bs i hl hi hk hb h0 h1
    obtain ⟨k, rfl⟩ : ∃ m, k = m + 1 := ⟨k - 1, by omega⟩
    obtain rfl : i = 8 := by omega
    have := geom_Where.ar_lt bs x 8
    rw [atticref04_Where.l0, if_neg (by omega), if_pos (by omega), if_pos (by omega)]
    unfold rd
    rw [Int.toNat_natCast]
  | succ d ih =>
    intro k x bs i hl hi hk hb h0 h1
    obtain ⟨k, rfl⟩ : ∃ m, k = m + 1 := ⟨k - 1, by omega⟩
    have hrd : rd bs (i : Int) = bs.getD i 0 := by unfold rd; rw [Int.toNat_natCast]
    have hw : wrap64 ((i : Int) + 1) = ((i + 1 : Nat) : Int) := by unfold wrap64; omega
    rw [atticref04_Where.l0, if_pos (by omega), if_pos (by omega), hrd, hw]
    have h := ih k x bs (i + 1) hl (by omega) (by omega) hb h0 h1
    by_cases hx : x ≥ bs.getD i 0
    · rw [if_pos hx]
      rw [geom_Where.ar_yes hx] at h
      exact h
    · rw [if_neg hx]
      rw [geom_Where.ar_no hx] at h
      exact h
theorem where_eq (a b c d x : Int) : ∃ r, geom_Where.f a b c d x = some r ∧ atticref04_Where.f 12 a b c d x = some r := by
  obtain ⟨r, h1, h2⟩ := of_eq 12 a b c d (by omega)
  unfold geom_Where.f atticref04_Where.f
  rw [h1, h2]
  simp only [Option.bind_some]
  by_cases h0 : r.2.2.2.2.2.2 = 0
  · have hp := of_ok h1 h0
    obtain ⟨hb, hc, hd, p1, p2, p3, p4, p5, p6, ha⟩ := hp
    simp only [] at p1 p2 p3 p4 p5 p6 ha
    rw [if_pos h0, if_pos h0]
    have hw : wrap64 (a - 1) = a - 1 := by unfold wrap64; omega
    rw [hw]
    by_cases hx : 0 ≤ x ∧ x ≤ a - 1
    · rw [if_pos hx, if_neg (show ¬ x < 0 by omega), atticref04_Where.j0, if_neg (by simp; omega)]
      refine ⟨_, rfl, ?_⟩
      refine where_l0 8 11 x [0, 2, r.1, r.2.1, r.2.2.1, r.2.2.2.1, r.2.2.2.2.1, r.2.2.2.2.2.1] 0 rfl (by omega) (by omega) (fun j => ?_) hx.1 (by omega)
      match j with
      | 0 => simp
      | 1 => simp
      | 2 => simp; omega
      | 3 => simp; omega
      | 4 => simp; omega
      | 5 => simp; omega
      | 6 => simp; omega
      | 7 => simp; omega
      | j + 8 => simp
    · rw [if_neg hx]
      by_cases hn : x < 0
      · rw [if_pos hn, atticref04_Where.j0, if_pos rfl]; exact ⟨_, rfl, rfl⟩
      · rw [if_neg hn, atticref04_Where.j0, if_pos (by simp; omega)]; exact ⟨_, rfl, rfl⟩
  · rw [if_neg h0, if_neg h0]
    exact ⟨_, rfl, rfl⟩
theorem GeomWhere : atticlaw04_GeomWhere.Pure := by
  intro a b c d x _ _ _ _ _
  refine ⟨12, ?_⟩
  obtain ⟨r, h1, h2⟩ := where_eq a b c d x
  unfold atticlaw04_GeomWhere.f
  rw [h1, h2, begun_true]
  simp
end Go.Proofs.Ythfjgheedingbaa.Pure
