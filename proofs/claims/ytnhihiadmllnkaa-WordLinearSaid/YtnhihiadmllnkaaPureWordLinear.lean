/- The law WordLinear, over numbers and lists alone: of three rows of bytes, cut to one length, the exclusive or of their sums is the sum of their exclusive or; for all rows of bytes. -/
import Derived.Test.YtnhihiadmllnkaaPAllx3
import Derived.Test.YtnhihiadmllnkaaCrc
namespace Go.Proofs.Ytnhihiadmllnkaa.Pure
open Go.RowKit Go.Proofs.Ytnhihiadmllnkaa.PAll Go.Proofs.YtnhihiadmllnkaaW.PrintWords Go.Proofs.YtnhihiadmllnkaaW.PrintLast Go.Proofs.YtnhihiadmllnkaaW.PrintMore

theorem linear_l0 (d : Nat) : ∀ (k : Nat) (a b c x : List Int) (n i : Nat), Bytes a → Bytes b → Bytes c → n ≤ a.length → n ≤ b.length → n ≤ c.length → n ≤ 9223372036854775806 → x.length = n → i + d = n →
    x.take i = (xr (xr (a.take n) (b.take n)) (c.take n)).take i → 10 * n + 2 + d ≤ k → atticlaw01_WordLinear.l0 k a b c n x n i = some true := by
  induction d with
  | zero =>
    intro k a b c x n i ha hb hc na nb nc hn hx hi ht hk
    have hT : (xr (xr (a.take n) (b.take n)) (c.take n)).length = n := by simp only [xr_length, List.length_take]; omega
    obtain rfl : i = n := by omega
    rw [List.take_of_length_le (by omega), List.take_of_length_le (by omega)] at ht
    subst ht
    obtain ⟨k, rfl⟩ : ∃ m, k = m + 1 := ⟨k - 1, by omega⟩
    rw [atticlaw01_WordLinear.l0]
    have f0 : Bytes (xr (xr (a.take i) (b.take i)) (c.take i)) := xr_bytes (xr_bytes (bytes_take ha i) (bytes_take hb i)) (bytes_take hc i)
    rw [if_neg (by omega), sum_f _ f0 (by omega) k (by omega)]
    simp only [Option.bind_some]
    rw [if_pos (by omega), if_pos (by omega), Int.toNat_natCast, sum_f _ (bytes_take ha i) (by rw [List.length_take]; omega) k (by rw [List.length_take]; omega)]
    simp only [Option.bind_some]
    rw [if_pos (by omega), sum_f _ (bytes_take hb i) (by rw [List.length_take]; omega) k (by rw [List.length_take]; omega)]
    simp only [Option.bind_some]
    rw [if_pos (by omega), sum_f _ (bytes_take hc i) (by rw [List.length_take]; omega) k (by rw [List.length_take]; omega)]
    simp only [Option.bind_some]
    have e1 := crcSum_lt _ (bytes_take ha i)
    have e2 := crcSum_lt _ (bytes_take hb i)
    have e3 := crcSum_lt _ (bytes_take hc i)
    rw [u32_xor_nat _ _ e1 e2, u32_xor_nat _ _ (Nat.xor_lt_two_pow (n := 32) e1 e2) e3, crcSum_xr3 _ _ _ (by simp only [List.length_take]; omega) (by simp only [List.length_take]; omega)]
    simp
  | succ d ih =>
    intro k a b c x n i ha hb hc na nb nc hn hx hi ht hk
    have hT : (xr (xr (a.take n) (b.take n)) (c.take n)).length = n := by simp only [xr_length, List.length_take]; omega
    obtain ⟨k, rfl⟩ : ∃ m, k = m + 1 := ⟨k - 1, by omega⟩
    rw [atticlaw01_WordLinear.l0]
    have va := ha _ (List.getElem_mem (show i < a.length by omega))
    have vb := hb _ (List.getElem_mem (show i < b.length by omega))
    have vc := hc _ (List.getElem_mem (show i < c.length by omega))
    have vab := Nat.xor_lt_two_pow (n := 8) (x := a[i].toNat) (y := b[i].toNat) (by omega) (by omega)
    rw [if_pos (by omega), if_pos (by omega), if_pos (by omega), if_pos (by omega), if_pos (by omega), if_pos (by omega), rd_nat (show i < a.length by omega), rd_nat (show i < b.length by omega), rd_nat (show i < c.length by omega), u8_x _ _ va vb, u8_x _ _ (by omega) vc, w64_succ (by omega) (by omega), Int.toNat_natCast, Int.toNat_natCast]
    refine ih k a b c _ n (i + 1) ha hb hc na nb nc hn (by simpa using hx) (by omega) ?_ (by omega)
    refine take_set (by omega) ht (by omega) ?_
    rw [List.getElem?_eq_getElem (by omega)]
    simp [xr]
theorem WordLinear : atticlaw01_WordLinear.Pure := by
  intro a b c _ ha wa _ hb wb _ hc wc
  have ba := bytes_wf wa
  have bb := bytes_wf wb
  have bc := bytes_wf wc
  clear wa wb wc
  obtain ⟨n, hn⟩ : ∃ n : Nat, (n : Int) = mn (mn (a.length : Int) (b.length : Int)) (c.length : Int) := ⟨(mn (mn (a.length : Int) (b.length : Int)) (c.length : Int)).toNat, by unfold mn; (repeat' split) <;> omega⟩
  have h1 : n ≤ a.length ∧ n ≤ b.length ∧ n ≤ c.length := by
    unfold mn at hn
    (repeat' split at hn) <;> omega
  refine ⟨10 * n + 2 + n, ?_⟩
  unfold atticlaw01_WordLinear.f atticlaw01_live.f
  rw [← hn]
  simp only [Option.bind_some, if_true]
  rw [if_pos (by omega), if_pos (by omega), Int.toNat_natCast]
  exact linear_l0 n _ a b c _ n 0 ba bb bc h1.1 h1.2.1 h1.2.2 (by omega) (by simp) (by omega) (by simp) (Nat.le_refl _)
end Go.Proofs.Ytnhihiadmllnkaa.Pure
