/- Plain lemmas on numbers of seven bits a byte, and on numbers put together by shifts; for all 64-bit numbers. -/
import Derived.Test.YtnhihiadmllnkaaPAllx8
import Derived.Test.YtnhihiadmllnkaaCrc
import Derived.Laws.BitsAllLaws
import Derived.Laws.Bits64
namespace Go.Proofs.Ytnhihiadmllnkaa.Pure
open Go.RowKit Go.Proofs.Ytnhihiadmllnkaa.PAll Go.Proofs.YtnhihiadmllnkaaW.PrintWords Go.Proofs.YtnhihiadmllnkaaW.PrintLast Go.Proofs.YtnhihiadmllnkaaW.PrintMore

/-! ### Numbers of seven bits a byte -/
theorem or128 (x : Int) : Go.bits .or .u8 (x % 256) 128 = x % 128 + 128 := by
  rw [u8_or _ _ (by omega) (by omega) (by omega) (by omega)]
  have key : ∀ y : Fin 256, (y.val ||| 128) = y.val % 128 + 128 := by decide +kernel
  have := key ⟨(x % 256).toNat, by omega⟩
  simp only [] at this
  rw [show (128 : Int).toNat = 128 from rfl, this]
  omega
theorem and127 (c : Int) (h0 : 0 ≤ c) (h1 : c < 256) : Go.bits .and .u8 c 127 = c % 128 := by
  rw [u8_and _ _ (by omega) (by omega) (by omega) (by omega)]
  have key : ∀ y : Fin 256, (y.val &&& 127) = y.val % 128 := by decide +kernel
  have := key ⟨c.toNat, by omega⟩
  simp only [] at this
  rw [show (127 : Int).toNat = 127 from rfl, this]
  omega
theorem u64w (n : Int) (h0 : 0 ≤ n) (h : n < 18446744073709551616) : IntKind.u64.wrap n = n := by rw [IntKind.wrap_u64]; omega
theorem shl_u64 (c j : Nat) (hj : j ≤ 64) (h : c * 2 ^ j < 18446744073709551616) : shl .u64 (c : Int) (j : Int) = ((c * 2 ^ j : Nat) : Int) := by
  unfold shl
  rw [Int.toNat_natCast, Nat.min_eq_left (show j ≤ IntKind.u64.bits from hj), show ((c : Int) * 2 ^ j) = ((c * 2 ^ j : Nat) : Int) by simp, u64w _ (by omega) (by omega)]
theorem or_shl (v c j : Nat) (hj : j ≤ 64) (hv : v < 2 ^ j) (h : c * 2 ^ j < 18446744073709551616) (h2 : v < 18446744073709551616) : Go.bits .or .u64 (v : Int) (shl .u64 (c : Int) (j : Int)) = ((v + c * 2 ^ j : Nat) : Int) := by
  rw [shl_u64 c j hj h, u64_or_nat v _ h2 h, Nat.or_comm, Nat.mul_comm, ← Nat.two_pow_add_eq_or_of_lt hv, Nat.add_comm]
theorem add_shl (v c j : Nat) (hj : j ≤ 64) (h : v + c * 2 ^ j < 18446744073709551616) : IntKind.u64.wrap ((v : Int) + shl .u64 (c : Int) (j : Int)) = ((v + c * 2 ^ j : Nat) : Int) := by
  rw [shl_u64 c j hj (by omega), u64w _ (by omega) (by omega)]
  simp
theorem uvar_both (k : Nat) : ∀ (x : Int) (acc : List Int), 0 ≤ x → x < 18446744073709551616 → word_Uvar.l0 k x acc = atticref01_Uvar.l0 k x acc := by
  induction k with
  | zero => intro x acc _ _; rfl
  | succ k ih =>
    intro x acc h0 h1
    rw [word_Uvar.l0, atticref01_Uvar.l0, Int.tdiv_eq_ediv_of_nonneg h0, Int.tmod_eq_emod_of_nonneg h0, u64w _ (by omega) (by omega), u64w _ (by omega) (by omega), or128 x, ih _ _ (by omega) (by omega), show (x % 128 + 128) % 256 = x % 128 + 128 by omega]
theorem uvar_some (d : Nat) : ∀ (k : Nat) (x : Int) (acc : List Int), 0 ≤ x → x < 128 ^ (d + 1) → acc.length + d < 140737488355328 → d < k → ∃ r, word_Uvar.l0 k x acc = some r := by
  induction d with
  | zero =>
    intro k x acc h0 h1 hl hk
    obtain ⟨k, rfl⟩ : ∃ m, k = m + 1 := ⟨k - 1, by omega⟩
    rw [word_Uvar.l0, if_neg (by omega), if_pos (by omega)]
    exact ⟨_, rfl⟩
  | succ d ih =>
    intro k x acc h0 h1 hl hk
    obtain ⟨k, rfl⟩ : ∃ m, k = m + 1 := ⟨k - 1, by omega⟩
    rw [word_Uvar.l0]
    by_cases h : x ≥ 128
    · rw [if_pos h, if_pos (by omega)]
      refine ih k _ _ (by omega) ?_ (by simp; omega) (by omega)
      have : (128 : Int) ^ (d + 1 + 1) = 128 ^ (d + 1) * 128 := Int.pow_succ _ _
      omega
    · rw [if_neg h, if_pos (by omega)]
      exact ⟨_, rfl⟩
theorem equal_self (l : List Int) : bytes_Equal.f l l = some true := by unfold bytes_Equal.f; simp
theorem w64id {x : Int} (h0 : -9223372036854775808 ≤ x) (h : x ≤ 9223372036854775807) : wrap64 x = x := by unfold wrap64; omega
theorem rd_take {l : List Int} {n : Nat} {i : Nat} (h : i < n) : rd (l.take n) i = rd l i := by
  unfold rd
  rw [List.getD_eq_getElem?_getD, List.getD_eq_getElem?_getD, List.getElem?_take, show ((i : Int).toNat) = i by omega, if_pos h]
end Go.Proofs.Ytnhihiadmllnkaa.Pure
