/- Plain lemmas on a number's bytes and on the number that stands anywhere in bytes: what Num and Get answer, and that the document answers the same; for all 64-bit numbers and all rows of bytes below 2^63. -/
import Derived.Test.YtnhihiadmllnkaaPAllx7
import Derived.Test.YtnhihiadmllnkaaPAllx8
import Derived.Test.YtnhihiadmllnkaaCrc
import Derived.Test.YtnhihiadmllnkaaNum
import Derived.Laws.BitsAllLaws
import Derived.Laws.Bits64
namespace Go.Proofs.Ytnhihiadmllnkaa.Pure
open Go.RowKit Go.Proofs.Ytnhihiadmllnkaa.PAll Go.Proofs.YtnhihiadmllnkaaW.PrintWords Go.Proofs.YtnhihiadmllnkaaW.PrintLast Go.Proofs.YtnhihiadmllnkaaW.PrintMore

/-! ### A number's bytes -/
theorem u64_nonneg_wrap8 (i : Nat) (h : i ≤ 8) : wrap64 (8 * (i : Int)) = ((8 * i : Nat) : Int) := by rw [w64id (by omega) (by omega)]; simp
def numL (n : Nat) (v : Nat) : List Int := (List.range n).map fun i => ((v / 256 ^ i % 256 : Nat) : Int)
theorem numL_length (n v : Nat) : (numL n v).length = n := by simp [numL]
theorem numL_get (n v i : Nat) (h : i < n) : (numL n v)[i]? = some ((v / 256 ^ i % 256 : Nat) : Int) := by simp [numL, h]
theorem pow8 (i : Nat) : 2 ^ (8 * i) = 256 ^ i := by rw [Nat.pow_mul]
theorem shr_num (v i : Nat) (h : i ≤ 8) : (shr .u64 (v : Int) ((8 * i : Nat) : Int)) % 256 = ((v / 256 ^ i % 256 : Nat) : Int) := by
  unfold shr
  rw [Int.toNat_natCast, Nat.min_eq_left (show 8 * i ≤ IntKind.u64.bits by show 8 * i ≤ 64; omega), show ((2 : Int) ^ (8 * i)) = ((256 ^ i : Nat) : Int) by rw [← pow8]; simp]
  simp
theorem num_l0 (d : Nat) : ∀ (k v n i : Nat) (x : List Int), n ≤ 8 → i + d = n → x.length = n → x.take i = (numL n v).take i → d < k → word_Num.l0 k v x n i = some (numL n v) := by
  induction d with
  | zero =>
    intro k v n i x hn hi hx ht hk
    obtain ⟨k, rfl⟩ : ∃ m, k = m + 1 := ⟨k - 1, by omega⟩
    obtain rfl : i = n := by omega
    rw [word_Num.l0, if_neg (by omega)]
    rw [List.take_of_length_le (by omega), List.take_of_length_le (by rw [numL_length]; omega)] at ht
    rw [ht]
  | succ d ih =>
    intro k v n i x hn hi hx ht hk
    obtain ⟨k, rfl⟩ : ∃ m, k = m + 1 := ⟨k - 1, by omega⟩
    rw [word_Num.l0, u64_nonneg_wrap8 i (by omega), shr_num v i (by omega), if_pos (by omega), if_pos (by omega), if_pos (by omega), if_pos (by omega), w64_succ (by omega) (by omega), Int.toNat_natCast]
    exact ih k v n (i + 1) _ hn (by omega) (by simpa using hx) (take_set (by rw [numL_length]; omega) ht (by rw [numL_length]; omega) (numL_get n v i (by omega))) (by omega)
theorem rnum_l0 (d : Nat) : ∀ (k v n i : Nat), n ≤ 8 → i + d = n → d < k → atticref01_Num.l0 k n v ((numL n v).take i) i = some (numL n v) := by
  induction d with
  | zero =>
    intro k v n i hn hi hk
    obtain ⟨k, rfl⟩ : ∃ m, k = m + 1 := ⟨k - 1, by omega⟩
    obtain rfl : i = n := by omega
    rw [atticref01_Num.l0, if_neg (by omega), List.take_of_length_le (by rw [numL_length]; omega)]
  | succ d ih =>
    intro k v n i hn hi hk
    obtain ⟨k, rfl⟩ : ∃ m, k = m + 1 := ⟨k - 1, by omega⟩
    rw [atticref01_Num.l0, u64_nonneg_wrap8 i (by omega), u64w _ (by omega) (by omega), shr_num v i (by omega), if_pos (by omega), if_pos (by omega), if_pos (by rw [List.length_take, numL_length]; omega), w64_succ (by omega) (by omega)]
    have h := numL_get n v i (by omega)
    have h2 : (numL n v).take (i + 1) = (numL n v).take i ++ [((v / 256 ^ i % 256 : Nat) : Int)] := by rw [List.take_add_one, h]; rfl
    rw [← h2]
    exact ih k v n (i + 1) hn (by omega) (by omega)
theorem num_f (k : Nat) (n : Int) (v : Nat) (hk : 10 ≤ k) : word_Num.f k n v = some (if n < 1 ∨ n > 8 then [] else numL n.toNat v) := by
  obtain ⟨k, rfl⟩ : ∃ m, k = m + 1 := ⟨k - 1, by omega⟩
  unfold word_Num.f
  by_cases h : n < 1
  · rw [if_pos h, word_Num.j0, if_pos rfl, if_pos (.inl h)]
  · rw [if_neg h, word_Num.j0]
    by_cases h8 : n > 8
    · rw [if_pos (by simpa using h8), if_pos (.inr h8)]
    · rw [if_neg (by simpa using h8), if_pos (by omega), if_pos (by omega), if_neg (by omega)]
      obtain ⟨m, rfl⟩ : ∃ m : Nat, n = m := ⟨n.toNat, by omega⟩
      rw [Int.toNat_natCast]
      exact num_l0 m k v m 0 _ (by omega) (by omega) (by simp) rfl (by omega)
theorem rnum_f (k : Nat) (n : Int) (v : Nat) (hk : 10 ≤ k) : atticref01_Num.f k n v = some (if n < 1 ∨ n > 8 then [] else numL n.toNat v) := by
  obtain ⟨k, rfl⟩ : ∃ m, k = m + 1 := ⟨k - 1, by omega⟩
  unfold atticref01_Num.f
  by_cases h : n < 1
  · rw [if_pos h, atticref01_Num.j0, if_pos rfl, if_pos (.inl h)]
  · rw [if_neg h, atticref01_Num.j0]
    by_cases h8 : n > 8
    · rw [if_pos (by simpa using h8), if_pos (.inr h8)]
    · rw [if_neg (by simpa using h8), if_neg (by omega)]
      obtain ⟨m, rfl⟩ : ∃ m : Nat, n = m := ⟨n.toNat, by omega⟩
      rw [Int.toNat_natCast]
      exact rnum_l0 m k v m 0 (by omega) (by omega) (by omega)
/-! ### The number that stands in bytes -/
def gnum : List Int → Nat
  | [] => 0
  | c :: l => c.toNat + 256 * gnum l
theorem gnum_lt : ∀ l : List Int, Bytes l → gnum l < 256 ^ l.length
  | [], _ => by simp [gnum]
  | c :: l, h => by
    have ih := gnum_lt l (fun x hx => h x (List.mem_cons_of_mem _ hx))
    have hc := h c List.mem_cons_self
    rw [List.length_cons, Nat.pow_succ]
    show c.toNat + 256 * gnum l < _
    omega
theorem gnum_snoc : ∀ (l : List Int) (c : Int), gnum (l ++ [c]) = gnum l + c.toNat * 256 ^ l.length
  | [], c => by simp [gnum]
  | x :: l, c => by
    show x.toNat + 256 * gnum (l ++ [c]) = (x.toNat + 256 * gnum l) + _
    rw [gnum_snoc l c, List.length_cons, Nat.pow_succ, Nat.mul_add]
    have : 256 * (c.toNat * 256 ^ l.length) = c.toNat * (256 ^ l.length * 256) := by rw [Nat.mul_comm 256, Nat.mul_assoc]
    omega
theorem gnum_take (l : List Int) (i : Nat) (h : i < l.length) : gnum (l.take (i + 1)) = gnum (l.take i) + l[i].toNat * 256 ^ i := by
  rw [List.take_succ_eq_append_getElem h, gnum_snoc, List.length_take, Nat.min_eq_left (by omega)]
/-- The number of n bytes from at on. -/
def getL (l : List Int) (at_ n : Nat) : Nat := gnum ((l.drop at_).take n)
theorem getL_succ (l : List Int) (p i : Nat) (h : p + i < l.length) : getL l p (i + 1) = getL l p i + l[p + i].toNat * 256 ^ i := by
  unfold getL
  rw [gnum_take _ _ (by rw [List.length_drop]; omega), List.getElem_drop]
theorem getL_lt (l : List Int) (p i : Nat) (hb : Bytes l) (h : p + i ≤ l.length) : getL l p i < 256 ^ i := by
  unfold getL
  have := gnum_lt ((l.drop p).take i) (fun x hx => hb x (List.mem_of_mem_drop (List.mem_of_mem_take hx)))
  rwa [List.length_take, List.length_drop, Nat.min_eq_left (by omega)] at this
theorem get_step (l : List Int) (p i : Nat) (hb : Bytes l) (h : p + i < l.length) (hi : i < 8) :
    Go.bits .or .u64 (getL l p i : Int) (shl .u64 (IntKind.u64.wrap (l[p + i])) ((8 * i : Nat) : Int)) = (getL l p (i + 1) : Int) ∧
    IntKind.u64.wrap ((getL l p i : Int) + shl .u64 (IntKind.u64.wrap (l[p + i])) ((8 * i : Nat) : Int)) = (getL l p (i + 1) : Int) := by
  have hc := hb _ (List.getElem_mem h)
  have h1 := getL_lt l p i hb (by omega)
  have h2 := getL_lt l p (i + 1) hb (by omega)
  have h3 := getL_succ l p i h
  have h4 : 256 ^ (i + 1) ≤ 256 ^ 8 := Nat.pow_le_pow_right (by decide) (by omega)
  have h5 : l[p + i] = ((l[p + i].toNat : Nat) : Int) := by omega
  have h6 := pow8 i
  rw [u64w (l[p + i]) (by omega) (by omega), h5]
  rw [← h6] at h3
  constructor
  · rw [or_shl _ _ _ (by omega) (by omega) (by omega) (by omega), h3]
  · rw [add_shl _ _ _ (by omega) (by omega), h3]
theorem get_l0 (d : Nat) : ∀ (k p n i : Nat) (l : List Int), Bytes l → l.length ≤ 9223372036854775000 → n ≤ 8 → p + n ≤ l.length → i + d = n → d < k →
    word_Get.l0 k l p (getL l p i : Nat) n i = some ((getL l p n : Int), true) ∧ atticref01_Get.l0 k l p n (getL l p i : Nat) i = some ((getL l p n : Int), true) := by
  induction d with
  | zero =>
    intro k p n i l hb hl hn hp hi hk
    obtain ⟨k, rfl⟩ : ∃ m, k = m + 1 := ⟨k - 1, by omega⟩
    obtain rfl : i = n := by omega
    rw [word_Get.l0, if_neg (by omega), atticref01_Get.l0, if_neg (by omega)]
    exact ⟨rfl, rfl⟩
  | succ d ih =>
    intro k p n i l hb hl hn hp hi hk
    obtain ⟨k, rfl⟩ : ∃ m, k = m + 1 := ⟨k - 1, by omega⟩
    have hlt : p + i < l.length := by omega
    have hrd : rd l ((p : Int) + (i : Int)) = l[p + i] := by rw [show ((p : Int) + (i : Int)) = ((p + i : Nat) : Int) by omega]; exact rd_nat hlt
    have w1 : wrap64 ((p : Int) + (i : Int)) = (p : Int) + (i : Int) := w64id (by omega) (by omega)
    have h := ih k p n (i + 1) l hb hl hn hp (by omega) (by omega)
    have c1 : ((i : Int) < (n : Int)) = True := eq_true (by omega)
    have c2 : ((0 : Int) ≤ (p : Int) + (i : Int)) = True := eq_true (by omega)
    have c3 : ((p : Int) + (i : Int) < (l.length : Int)) = True := eq_true (by omega)
    have c4 : ((0 : Int) ≤ ((8 * i : Nat) : Int)) = True := eq_true (by omega)
    have w2 : wrap64 ((i : Int) + 1) = ((i + 1 : Nat) : Int) := by rw [w64_succ (by omega) (by omega)]; omega
    have w3 := u64_nonneg_wrap8 i (by omega)
    have w4 : IntKind.u64.wrap ((8 * i : Nat) : Int) = ((8 * i : Nat) : Int) := u64w _ (by omega) (by omega)
    have hi8 : i < 8 := by omega
    clear hl hi hk
    obtain ⟨s1, s2⟩ := get_step l p i hb hlt hi8
    constructor
    · rw [word_Get.l0]
      simp only [w1, w2, w3, hrd, s1, c1, c2, c3, c4, if_true]
      exact h.1
    · rw [atticref01_Get.l0]
      simp only [w1, w2, w3, w4, hrd, s2, c1, c2, c3, c4, if_true]
      exact h.2
/-- What Get answers. -/
def getA (l : List Int) (p n : Int) : Int × Bool := if n < 1 ∨ n > 8 ∨ p < 0 ∨ p > l.length ∨ n > l.length - p then (0, false) else ((getL l p.toNat n.toNat : Int), true)
theorem get_f (k : Nat) (l : List Int) (p n : Int) (hb : Bytes l) (hl : l.length ≤ 9223372036854775000) (hk : 10 ≤ k) : word_Get.f k l p n = some (getA l p n) ∧ atticref01_Get.f k l p n = some (getA l p n) := by
  obtain ⟨k, rfl⟩ : ∃ m, k = m + 1 := ⟨k - 1, by omega⟩
  unfold word_Get.f atticref01_Get.f getA
  by_cases h1 : n < 1
  · rw [if_pos h1, if_pos h1, if_pos (.inl h1), word_Get.j0, atticref01_Get.j0, if_pos rfl, if_pos rfl]; exact ⟨rfl, rfl⟩
  by_cases h2 : n > 8
  · rw [if_neg h1, if_neg h1, if_pos h2, if_pos h2, if_pos (.inr (.inl h2)), word_Get.j0, atticref01_Get.j0, if_pos rfl, if_pos rfl]; exact ⟨rfl, rfl⟩
  by_cases h3 : p < 0
  · rw [if_neg h1, if_neg h1, if_neg h2, if_neg h2, if_pos h3, if_pos h3, if_pos (.inr (.inr (.inl h3))), word_Get.j0, atticref01_Get.j0, if_pos rfl, if_pos rfl]; exact ⟨rfl, rfl⟩
  by_cases h4 : p > (l.length : Int)
  · rw [if_neg h1, if_neg h1, if_neg h2, if_neg h2, if_neg h3, if_neg h3, if_pos h4, if_pos h4, if_pos (.inr (.inr (.inr (.inl h4)))), word_Get.j0, atticref01_Get.j0, if_pos rfl, if_pos rfl]; exact ⟨rfl, rfl⟩
  rw [if_neg h1, if_neg h1, if_neg h2, if_neg h2, if_neg h3, if_neg h3, if_neg h4, if_neg h4, w64id (by omega) (by omega)]
  by_cases h5 : n > (l.length : Int) - p
  · rw [if_pos (.inr (.inr (.inr (.inr h5)))), word_Get.j0, atticref01_Get.j0, if_pos (by simpa using h5), if_pos (by simpa using h5)]; exact ⟨rfl, rfl⟩
  · rw [if_neg (by omega), word_Get.j0, atticref01_Get.j0, if_neg (by simpa using h5), if_neg (by simpa using h5)]
    obtain ⟨m, rfl⟩ : ∃ m : Nat, n = m := ⟨n.toNat, by omega⟩
    obtain ⟨q, rfl⟩ : ∃ q : Nat, p = q := ⟨p.toNat, by omega⟩
    rw [Int.toNat_natCast, Int.toNat_natCast]
    exact get_l0 m k q m 0 l hb hl (by omega) (by omega) (by omega) (by omega)
end Go.Proofs.Ytnhihiadmllnkaa.Pure
