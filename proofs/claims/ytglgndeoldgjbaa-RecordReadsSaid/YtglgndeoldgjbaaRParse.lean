/- The document's answer on a sector's bytes: its number, plain. -/
import Derived.Test.YtglgndeoldgjbaaRecC
namespace Go.Proofs.Ytglgndeoldgjbaa.Pure
open Go.RowKit Go.Proofs.Ytglgndeoldgjbaa Go.Proofs.Ytglgndeoldgjbaa.PTwo Go.Proofs.Ytglgndeoldgjbaa.Mem Go.Proofs.YtglgndeoldgjbaaW.PrintWords Go.Proofs.YtglgndeoldgjbaaW.PrintLast Go.Proofs.YtglgndeoldgjbaaW.PrintMore
set_option linter.unusedVariables false
set_option linter.unusedSimpArgs false

theorem gnum_cons (a : Int) (l : List Int) : gnum (a :: l) = a.toNat + 256 * gnum l := rfl
theorem gnum_le : ∀ (l : List Int), Bytes l → gnum l < 256 ^ l.length
  | [], _ => by decide
  | a :: l, h => by
    have h1 := gnum_le l (fun x hx => h x (List.mem_cons_of_mem _ hx))
    have h2 := h a (List.mem_cons_self ..)
    rw [gnum_cons, List.length_cons, Nat.pow_succ]
    omega
theorem rnumber_l0 (l : List Int) (hb : Bytes l) (hl : l.length ≤ 8) : ∀ (j k : Nat), j ≤ l.length → j < k → PRef.atticref06_number.l0 k l (gnum (l.drop j) : Int) ((j : Int) - 1) = some (gnum l : Int)
  | 0, k, hj, hk => by
    obtain ⟨k, rfl⟩ : ∃ m, k = m + 1 := ⟨k - 1, by omega⟩
    rw [PRef.atticref06_number.l0, if_neg (by omega)]
    rfl
  | j + 1, k, hj, hk => by
    obtain ⟨k, rfl⟩ : ∃ m, k = m + 1 := ⟨k - 1, by omega⟩
    have hlt : j < l.length := by omega
    have hx := hb _ (List.getElem_mem hlt)
    have hd : Bytes (l.drop (j + 1)) := fun x hx => hb x (List.mem_of_mem_drop hx)
    have hg := gnum_le (l.drop (j + 1)) hd
    have hg7 : gnum (l.drop (j + 1)) < 256 ^ 7 := Nat.lt_of_lt_of_le hg (Nat.pow_le_pow_right (by decide) (by rw [List.length_drop]; omega))
    have h7 : 256 ^ 7 = 72057594037927936 := by decide
    rw [PRef.atticref06_number.l0, if_pos (by omega), if_pos (by omega), if_pos (by omega)]
    rw [show ((j + 1 : Nat) : Int) - 1 = (j : Int) by omega, rd_nat hlt, u64w (l[j]) (by omega) (by omega), u64w ((gnum (l.drop (j + 1)) : Int) * 256) (by omega) (by omega), u64w _ (by omega) (by omega), w64id (by omega) (by omega)]
    rw [← rnumber_l0 l hb hl j k (by omega) (by omega), List.drop_eq_getElem_cons hlt, gnum_cons]
    congr 1
    omega
theorem rnumber_f (k : Nat) (l : List Int) (hb : Bytes l) (hl : l.length ≤ 8) (hk : 9 ≤ k) : PRef.atticref06_number.f k l = some (gnum l : Int) := by
  unfold PRef.atticref06_number.f
  rw [w64id (by omega) (by omega)]
  have := rnumber_l0 l hb hl l.length k (Nat.le_refl _) (by omega)
  rwa [List.drop_of_length_le (Nat.le_refl _)] at this
end Go.Proofs.Ytglgndeoldgjbaa.Pure
