/- The law WordUvars, over numbers and lists alone: any number's bytes, and the number with which any bytes begin, are the document's; for all numbers and all rows of bytes. -/
import Derived.Test.YtnhihiadmllnkaaPAllx8
import Derived.Test.YtnhihiadmllnkaaCrc
import Derived.Test.YtnhihiadmllnkaaNum
import Derived.Laws.BitsAllLaws
import Derived.Laws.Bits64
namespace Go.Proofs.Ytnhihiadmllnkaa.Pure
open Go.RowKit Go.Proofs.Ytnhihiadmllnkaa.PAll Go.Proofs.YtnhihiadmllnkaaW.PrintWords Go.Proofs.YtnhihiadmllnkaaW.PrintLast Go.Proofs.YtnhihiadmllnkaaW.PrintMore

theorem rd_take {l : List Int} {n : Nat} {i : Nat} (h : i < n) : rd (l.take n) i = rd l i := by
  unfold rd
  rw [List.getD_eq_getElem?_getD, List.getD_eq_getElem?_getD, List.getElem?_take, show ((i : Int).toNat) = i by omega, if_pos h]
theorem w64id {x : Int} (h0 : -9223372036854775808 ≤ x) (h : x ≤ 9223372036854775807) : wrap64 x = x := by unfold wrap64; omega
theorem take_j1 (d : Nat)
    (ih : ∀ (k : Nat) (v i : Nat) (l : List Int), Bytes l → l.length ≤ 140737488351232 → v < 2 ^ (7 * i) → i ≤ 9 → i + d = min l.length 10 → 2 * d + 1 ≤ k →
      ∃ r, word_TakeUvar.l0 k v (l.take (min l.length 10)) (min l.length 10 : Nat) i = some r ∧ atticref01_TakeUvar.l0 k l v i = some r)
    (k v i : Nat) (l : List Int) (c : Int) (bad : Bool) (hb : Bytes l) (hl : l.length ≤ 140737488351232) (hv : v < 2 ^ (7 * i)) (hi : i ≤ 9) (hd : i + (d + 1) = min l.length 10) (hk : 2 * d + 2 ≤ k)
    (hc : 0 ≤ c ∧ c < 256) (h9 : bad = false → i = 9 → c ≤ 1) :
    ∃ r, word_TakeUvar.j1 k v i c (l.take (min l.length 10)) (min l.length 10 : Nat) i bad = some r ∧ atticref01_TakeUvar.j1 k l v i c bad = some r := by
  obtain ⟨k, rfl⟩ : ∃ m, k = m + 1 := ⟨k - 1, by omega⟩
  rw [word_TakeUvar.j1, atticref01_TakeUvar.j1]
  cases bad with
  | true => exact ⟨_, rfl, rfl⟩
  | false =>
    rw [if_neg (show ¬ (false = true) by decide), if_neg (show ¬ (false = true) by decide)]
    have h7 : wrap64 (7 * (i : Int)) = ((7 * i : Nat) : Int) := by rw [w64id (by omega) (by omega)]; simp
    rw [h7, u64w ((7 * i : Nat) : Int) (by omega) (by omega), if_pos (show (0 : Int) ≤ ((7 * i : Nat) : Int) by omega), if_pos (show (0 : Int) ≤ ((7 * i : Nat) : Int) by omega), and127 c hc.1 hc.2, Int.tmod_eq_emod_of_nonneg hc.1, u64w (c % 128) (by omega) (by omega), show (c % 128) = ((c.toNat % 128 : Nat) : Int) by omega]
    have hp : 2 ^ (7 * i) ≤ 2 ^ 63 := Nat.pow_le_pow_right (by decide) (by omega)
    have hp2 : v + (c.toNat % 128) * 2 ^ (7 * i) < 18446744073709551616 ∧ v + (c.toNat % 128) * 2 ^ (7 * i) < 2 ^ (7 * (i + 1)) ∨ (i = 9 ∧ v + (c.toNat % 128) * 2 ^ (7 * i) < 18446744073709551616) := by
      by_cases e : i = 9
      · right
        have := h9 rfl e
        subst e
        refine ⟨rfl, ?_⟩
        have : c.toNat % 128 ≤ 1 := by omega
        have := Nat.mul_le_mul_right (2 ^ (7 * 9)) this
        omega
      · left
        have h1 : 2 ^ (7 * (i + 1)) = 128 * 2 ^ (7 * i) := by rw [show 7 * (i + 1) = 7 * i + 7 by omega, Nat.pow_add, Nat.mul_comm]
        have h2 : (c.toNat % 128) * 2 ^ (7 * i) ≤ 127 * 2 ^ (7 * i) := Nat.mul_le_mul_right _ (by omega)
        have h3 : 2 ^ (7 * (i + 1)) ≤ 2 ^ 63 := Nat.pow_le_pow_right (by decide) (by omega)
        omega
    have hlt : v + (c.toNat % 128) * 2 ^ (7 * i) < 18446744073709551616 := by rcases hp2 with h | h <;> exact (by omega)
    rw [or_shl v _ _ (by omega) hv (by omega) (by omega), add_shl v _ _ (by omega) hlt, w64_succ (by omega) (by omega)]
    by_cases hs : c < 128
    · rw [if_pos hs, if_pos hs]
      exact ⟨_, rfl, rfl⟩
    · rw [if_neg hs, if_neg hs]
      have hi9 : i ≠ 9 := fun e => by have := h9 rfl e; omega
      rw [show ((i : Int) + 1) = ((i + 1 : Nat) : Int) by omega]
      refine ih k _ (i + 1) l hb hl ?_ (by omega) (by omega) (by omega)
      rcases hp2 with h | h
      · exact h.2
      · exact absurd h.1 hi9
theorem take_l0 (d : Nat) : ∀ (k : Nat) (v i : Nat) (l : List Int), Bytes l → l.length ≤ 140737488351232 → v < 2 ^ (7 * i) → i ≤ 9 → i + d = min l.length 10 → 2 * d + 1 ≤ k →
      ∃ r, word_TakeUvar.l0 k v (l.take (min l.length 10)) (min l.length 10 : Nat) i = some r ∧ atticref01_TakeUvar.l0 k l v i = some r := by
  induction d with
  | zero =>
    intro k v i l hb hl hv hi hd hk
    obtain ⟨k, rfl⟩ : ∃ m, k = m + 1 := ⟨k - 1, by omega⟩
    rw [word_TakeUvar.l0, atticref01_TakeUvar.l0, if_neg (by omega), if_neg (by omega)]
    exact ⟨_, rfl, rfl⟩
  | succ d ih =>
    intro k v i l hb hl hv hi hd hk
    obtain ⟨k, rfl⟩ : ∃ m, k = m + 1 := ⟨k - 1, by omega⟩
    have hlt : i < l.length := by omega
    have hc := hb _ (List.getElem_mem hlt)
    have c1 : ((i : Int) < ((min l.length 10 : Nat) : Int)) = True := eq_true (by omega)
    have c2 : ((0 : Int) ≤ (i : Int)) = True := eq_true (by omega)
    have c3 : ((i : Int) < ((l.take (min l.length 10)).length : Int)) = True := eq_true (by simp only [List.length_take]; omega)
    have c4 : ((i : Int) < (l.length : Int)) = True := eq_true (by omega)
    have c5 : rd (l.take (min l.length 10)) (i : Int) = l[i] := (rd_take (by omega)).trans (rd_nat hlt)
    have c6 : rd l (i : Int) = l[i] := rd_nat hlt
    rw [word_TakeUvar.l0, atticref01_TakeUvar.l0]
    simp only [c1, c2, c3, c4, c5, c6, if_true]
    by_cases e : (i : Int) = 9
    · by_cases e1 : l[i] > 1
      · simp only [e1, if_true, if_pos e]
        exact take_j1 d ih k v i l _ true hb hl hv hi hd (by omega) hc (by simp)
      · have e0 : ((i : Int) > 0) = True := eq_true (by omega)
        simp only [e1, e0, if_true, if_false, if_pos e]
        exact take_j1 d ih k v i l _ _ hb hl hv hi hd (by omega) hc (fun _ _ => by omega)
    · by_cases e0 : (i : Int) > 0
      · simp only [e0, if_true, if_neg e]
        exact take_j1 d ih k v i l _ _ hb hl hv hi hd (by omega) hc (fun _ h => absurd h (by omega))
      · simp only [e0, if_false, if_neg e]
        exact take_j1 d ih k v i l _ _ hb hl hv hi hd (by omega) hc (fun _ h => absurd h (by omega))
theorem take_f (l : List Int) (hb : Bytes l) (hl : l.length ≤ 140737488351232) (k : Nat) (hk : 21 ≤ k) : ∃ r, word_TakeUvar.f k l = some r ∧ atticref01_TakeUvar.f k l = some r := by
  have hm : mn (l.length : Int) 10 = ((min l.length 10 : Nat) : Int) := by unfold mn; split <;> omega
  unfold word_TakeUvar.f atticref01_TakeUvar.f
  rw [hm, if_pos (by omega), if_pos (by omega), Int.toNat_natCast, List.length_take, show min (min l.length 10) l.length = min l.length 10 by omega]
  exact take_l0 (min l.length 10) k 0 0 l hb hl (by simp) (by omega) (by omega) (by omega)
theorem WordUvars : atticlaw01_WordUvars.Pure := by
  intro v l wv _ hl wl
  have hb := bytes_wf wl
  have hv : 0 ≤ v ∧ v < 18446744073709551616 := by
    simp [Lit.wf, IntKind.min, IntKind.max, IntKind.signed, IntKind.bits] at wv
    omega
  refine ⟨21, ?_⟩
  obtain ⟨r, h1, h2⟩ := take_f l hb (by omega) 21 (Nat.le_refl _)
  obtain ⟨q, h3⟩ := uvar_some 9 21 v [] hv.1 (by omega) (by simp) (by omega)
  have h4 : atticref01_Uvar.l0 21 v [] = some q := by rw [← uvar_both 21 v [] hv.1 hv.2]; exact h3
  unfold atticlaw01_WordUvars.f atticlaw01_live.f word_Uvar.f atticref01_Uvar.f
  rw [h1, h2, h3, h4]
  simp only [Option.bind_some, if_true]
  rw [equal_self]
  simp
end Go.Proofs.Ytnhihiadmllnkaa.Pure
