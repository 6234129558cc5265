/- Plain lemmas on bytes ahead of their sum: what Seal and Unseal answer, and that the document answers the same; for all rows of bytes up to 140737488355000. -/
import Derived.Test.YtnhihiadmllnkaaPAllx8
import Derived.Test.YtnhihiadmllnkaaPAllx9
import Derived.Test.YtnhihiadmllnkaaPAllx11
import Derived.Test.YtnhihiadmllnkaaCrc
import Derived.Test.YtnhihiadmllnkaaNum
import Derived.Test.YtnhihiadmllnkaaGet
import Derived.Laws.BitsAllLaws
import Derived.Laws.Bits64
namespace Go.Proofs.Ytnhihiadmllnkaa.Pure
open Go.RowKit Go.Proofs.Ytnhihiadmllnkaa.PAll Go.Proofs.YtnhihiadmllnkaaW.PrintWords Go.Proofs.YtnhihiadmllnkaaW.PrintLast Go.Proofs.YtnhihiadmllnkaaW.PrintMore

/-! ### The document's sum; bytes ahead of their sum -/
theorem u32_rstep (x : Nat) (h : x < 4294967296) : (if (Int.tmod (x : Int) 2) = 1 then Go.bits .xor .u32 ((x : Int) / 2) 2197175160 else (x : Int) / 2) = (crcS x : Nat) := by
  rw [Int.tmod_eq_emod_of_nonneg (by omega)]
  unfold crcS
  rcases Nat.mod_two_eq_zero_or_one x with hx | hx
  · rw [if_neg (by omega), if_neg (by omega), Nat.xor_zero]
    omega
  · rw [if_pos (by omega), if_pos hx, show ((x : Int) / 2) = ((x / 2 : Nat) : Int) by omega, show (2197175160 : Int) = ((crcP : Nat) : Int) from rfl, u32_xor_nat _ _ (by omega) (by decide)]
theorem rsum_l1 (j : Nat) : ∀ (k : Nat) (x : Nat) (l : List Int) (i : Int), j ≤ 8 → x < 4294967296 → 0 ≤ i → i < 9223372036854775807 →
    atticref01_Sum.l1 (k + j + 1) l x i (8 - j) = atticref01_Sum.l0 k l (crcN j x : Nat) (i + 1) := by
  induction j with
  | zero =>
    intro k x l i _ hx h0 h1
    rw [atticref01_Sum.l1]
    rw [if_neg (by omega), w64_succ (by omega) h1]
    rfl
  | succ j ih =>
    intro k x l i hj hx h0 h1
    have hs := u32_rstep x hx
    have h := ih k _ l i (by omega) (crcS_lt x hx) h0 h1
    rw [← hs] at h
    rw [show k + (j + 1) + 1 = (k + j + 1) + 1 by omega, atticref01_Sum.l1, if_pos (by omega), w64_succ (by omega) (by omega), show (8 - ((j + 1 : Nat) : Int) + 1) = 8 - (j : Int) by omega]
    by_cases c : (Int.tmod (x : Int) 2) = 1
    · rw [if_pos c] at h ⊢
      exact h
    · rw [if_neg c] at h ⊢
      exact h
theorem rsum_l0 (d : Nat) : ∀ (k : Nat) (x : Nat) (l : List Int) (i : Nat), Bytes l → l.length ≤ 9223372036854775806 → x < 4294967296 → i + d = l.length → 10 * d + 1 ≤ k →
    atticref01_Sum.l0 k l x i = some (((4294967295 ^^^ crc x ((l.drop i).map Int.toNat) : Nat)) : Int) := by
  induction d with
  | zero =>
    intro k x l i hb hl hx hi hk
    obtain ⟨k, rfl⟩ : ∃ m, k = m + 1 := ⟨k - 1, by omega⟩
    rw [atticref01_Sum.l0]
    rw [if_neg (by omega), List.drop_of_length_le (by omega), show (4294967295 : Int) = ((4294967295 : Nat) : Int) from rfl, u32_xor_nat _ _ (by omega) hx]
    rfl
  | succ d ih =>
    intro k x l i hb hl hx hi hk
    obtain ⟨k, rfl⟩ : ∃ m, k = (m + 8 + 1) + 1 := ⟨k - 10, by omega⟩
    have hlt : i < l.length := by omega
    have hc := hb _ (List.getElem_mem hlt)
    rw [atticref01_Sum.l0]
    rw [if_pos (by omega), if_pos (by omega)]
    rw [rd_nat hlt]
    obtain ⟨c, hcc⟩ : ∃ c : Nat, (c : Int) = l[i] := ⟨l[i].toNat, by omega⟩
    rw [← hcc, show ((c : Int) % 4294967296) = (c : Int) by omega, u32_xor_nat _ _ hx (by omega)]
    have hxc : x ^^^ c < 4294967296 := Nat.xor_lt_two_pow (n := 32) hx (by omega)
    have h1 := rsum_l1 8 k (x ^^^ c) l i (by omega) hxc (by omega) (by omega)
    rw [show (8 - ((8 : Nat) : Int)) = 0 from rfl] at h1
    rw [h1, show ((i : Int) + 1) = ((i + 1 : Nat) : Int) by omega, ih k _ l (i + 1) hb hl (crcN_lt 8 _ hxc) (by omega) (by omega)]
    rw [List.drop_eq_getElem_cons hlt, List.map_cons]
    show _ = some (((4294967295 ^^^ crc (crcN 8 (x ^^^ _)) _ : Nat)) : Int)
    rw [← hcc]
    rfl
theorem rsum_f (l : List Int) (hb : Bytes l) (hl : l.length ≤ 9223372036854775806) (k : Nat) (hk : 10 * l.length + 1 ≤ k) : atticref01_Sum.f k l = some (crcSum l : Int) := by
  unfold atticref01_Sum.f
  have := rsum_l0 l.length k 4294967295 l 0 hb hl (by omega) (by omega) hk
  exact this
/-- What Unseal answers. -/
def unsealA (l : List Int) : List Int × Int := if l.length < 4 then ([], 10) else if getL l (l.length - 4) 4 = crcSum (l.take (l.length - 4)) then (l.take (l.length - 4), 0) else ([], 11)
theorem getA_last (l : List Int) (h : 4 ≤ l.length) : getA l ((l.length - 4 : Nat) : Int) 4 = ((getL l (l.length - 4) 4 : Int), true) := by
  unfold getA
  rw [if_neg (by omega)]
  rfl
theorem unseal_f (l : List Int) (hb : Bytes l) (hl : l.length ≤ 140737488355000) (k : Nat) (hk : 10 * l.length + 10 ≤ k) : word_Unseal.f k l = some (unsealA l) ∧ atticref01_Unseal.f k l = some (unsealA l) := by
  unfold word_Unseal.f atticref01_Unseal.f unsealA
  rw [w64id (by omega) (by omega)]
  by_cases h : l.length < 4
  · rw [if_pos h, if_pos (by omega), if_pos (by omega)]
    exact ⟨rfl, rfl⟩
  · have hlt := getL_lt l (l.length - 4) 4 hb (by omega)
    have hs := crcSum_lt _ (bytes_take hb (l.length - 4))
    obtain ⟨g1, g2⟩ := get_f k l ((l.length - 4 : Nat) : Int) 4 hb (by omega) (by omega)
    have s1 := sum_f _ (bytes_take hb (l.length - 4)) (by rw [List.length_take]; omega) k (by rw [List.length_take]; omega)
    have s2 := rsum_f _ (bytes_take hb (l.length - 4)) (by rw [List.length_take]; omega) k (by rw [List.length_take]; omega)
    rw [getA_last l (by omega)] at g1 g2
    have ht : (l.take (l.length - 4)).length < 140737488355328 := by rw [List.length_take]; omega
    rw [if_neg h, if_neg (show ¬ ((l.length : Int) - 4 < 0) by omega), if_neg (show ¬ ((l.length : Int) < 4) by omega), show ((l.length : Int) - 4) = ((l.length - 4 : Nat) : Int) by omega, g1, g2]
    simp only [Option.bind_some]
    have p1 : (0 : Int) ≤ ((l.length - 4 : Nat) : Int) := by omega
    have p2 : ((l.length - 4 : Nat) : Int) ≤ (l.length : Int) := by omega
    have p3 : ([] : List Int).length + (l.take (l.length - 4)).length < 140737488355328 := by simpa using ht
    rw [if_pos p1, if_pos p2, if_pos p1, if_pos p2, Int.toNat_natCast, s1, s2]
    simp only [Option.bind_some]
    rw [show (((getL l (l.length - 4) 4 : Nat) : Int) % 4294967296) = ((getL l (l.length - 4) 4 : Nat) : Int) by omega, u64w _ (by omega) (by omega)]
    by_cases e : getL l (l.length - 4) 4 = crcSum (l.take (l.length - 4))
    · have e2 : (((getL l (l.length - 4) 4 : Nat) : Int) = ((crcSum (l.take (l.length - 4)) : Nat) : Int)) := by rw [e]
      rw [if_pos e, if_pos e2, if_pos e2, if_pos p3]
      unfold bytes_Clone.f
      rw [if_pos ht]
      exact ⟨rfl, rfl⟩
    · have e2 : ¬ (((getL l (l.length - 4) 4 : Nat) : Int) = ((crcSum (l.take (l.length - 4)) : Nat) : Int)) := by omega
      rw [if_neg e, if_neg e2, if_neg e2]
      exact ⟨rfl, rfl⟩
theorem gnum_numL (n v : Nat) : gnum (numL n v) = v % 256 ^ n := by
  induction n with
  | zero => simp [numL, gnum]; omega
  | succ n ih =>
    have h : numL (n + 1) v = numL n v ++ [((v / 256 ^ n % 256 : Nat) : Int)] := by simp [numL, List.range_succ]
    rw [h, gnum_snoc, ih, numL_length, Int.toNat_natCast, Nat.mod_pow_succ, Nat.mul_comm]
theorem numL_bytes (n v : Nat) : Bytes (numL n v) := by
  intro x hx
  obtain ⟨i, _, rfl⟩ := List.mem_map.1 hx
  omega
theorem bytes_append {a b : List Int} (ha : Bytes a) (hb : Bytes b) : Bytes (a ++ b) := fun x hx => (List.mem_append.1 hx).elim (ha x) (hb x)
/-- What Seal answers. -/
def sealA (l : List Int) : List Int := l ++ numL 4 (crcSum l)
theorem seal_bytes {l : List Int} (h : Bytes l) : Bytes (sealA l) := bytes_append h (numL_bytes _ _)
theorem seal_length (l : List Int) : (sealA l).length = l.length + 4 := by simp [sealA, numL_length]
theorem unseal_seal (l : List Int) (h : Bytes l) : unsealA (sealA l) = (l, 0) := by
  have hs := crcSum_lt l h
  unfold unsealA
  have h1 : (sealA l).take ((sealA l).length - 4) = l := by rw [seal_length]; simp [sealA]
  have h2 : getL (sealA l) ((sealA l).length - 4) 4 = crcSum l := by
    unfold getL
    rw [seal_length]
    simp only [sealA, Nat.add_sub_cancel, List.drop_left]
    rw [List.take_of_length_le (by rw [numL_length]; omega), gnum_numL]
    omega
  rw [if_neg (by rw [seal_length]; omega), h1, h2, if_pos rfl]
theorem seal_f (l : List Int) (hb : Bytes l) (hl : l.length ≤ 140737488355000) (k : Nat) (hk : 10 * l.length + 10 ≤ k) : word_Seal.f k l = some (sealA l) ∧ atticref01_Seal.f k l = some (sealA l) := by
  have hs := crcSum_lt l hb
  unfold word_Seal.f atticref01_Seal.f
  rw [sum_f l hb (by omega) k (by omega), rsum_f l hb (by omega) k (by omega), if_pos (by simp; omega)]
  simp only [Option.bind_some]
  rw [u64w _ (by omega) (by omega), num_f k 4 _ (by omega), rnum_f k 4 _ (by omega)]
  simp only [Option.bind_some]
  rw [if_neg (by omega), show (4 : Int).toNat = 4 from rfl]
  unfold slices_Concat_byte_byte.f
  rw [if_pos (by simp [numL_length]; omega), if_pos (by rw [numL_length]; omega)]
  simp [sealA]
end Go.Proofs.Ytnhihiadmllnkaa.Pure
