/- Plain lemmas on shapes, numbers in bytes, heads and new objects. -/
import Derived.Test.YtckdnkiacnonkaaLive
import Derived.Laws.BitsAllLaws
import Derived.Laws.Bits64
import Derived.Test.YtckdnkiacnonkaaCrc
import Derived.Lib.Bytes
namespace Go.Proofs.Ytckdnkiacnonkaa.Pure
open Go.RowKit Go.Proofs.Ytckdnkiacnonkaa.PAll Go.Proofs.YtckdnkiacnonkaaW.PrintWords Go.Proofs.YtckdnkiacnonkaaW.PrintLast Go.Proofs.YtckdnkiacnonkaaW.PrintMore

/-! ### Which shapes may be, and how large they are -/
def chk (a b c : Int) : Int := if (1 ≤ a ∧ a ≤ 3) ∧ (0 ≤ b ∧ b ≤ 126) ∧ (0 ≤ c ∧ c ≤ 1008) ∧ (a = 3 → 1 ≤ b) then 0 else 110
theorem chk_w (a b c : Int) : class_Check.f a b c = some (chk a b c) := by
  unfold class_Check.f chk
  (repeat' split) <;> first | rfl | (exfalso; omega)
theorem chk_r (a b c : Int) : atticref11_Check.f a b c = some (chk a b c) := by
  unfold atticref11_Check.f chk
  (repeat' split) <;> first | rfl | (exfalso; omega)
theorem chk_ok {a b c : Int} (h : chk a b c = 0) : (1 ≤ a ∧ a ≤ 3) ∧ (0 ≤ b ∧ b ≤ 126) ∧ (0 ≤ c ∧ c ≤ 1008) ∧ (a = 3 → 1 ≤ b) := by
  unfold chk at h
  split at h
  · assumption
  · omega
theorem chk_or (a b c : Int) : chk a b c = 0 ∨ chk a b c = 110 := by unfold chk; split <;> simp
def sizeN (a b c : Int) : Int := if chk a b c = 0 then 16 + 8 * b + c else 0
theorem size_w (a b c : Int) : class_Size.f a b c = some (sizeN a b c) := by
  unfold class_Size.f sizeN
  rw [chk_w]
  simp only [Option.bind_some]
  by_cases h : chk a b c = 0
  · rw [if_pos h, if_pos h]
    have := chk_ok h
    unfold wrap64
    congr 1
    omega
  · rw [if_neg h, if_neg h]
theorem size_r (a b c : Int) : atticref11_Size.f a b c = some (sizeN a b c) := by
  unfold atticref11_Size.f sizeN
  rw [chk_r]
  simp only [Option.bind_some]
  by_cases h : chk a b c = 0
  · rw [if_pos h, if_pos h]
    have := chk_ok h
    unfold wrap64
    congr 1
    omega
  · rw [if_neg h, if_neg h]
theorem slot_r (m c : Nat) (h : c < 6) : atticref11_Slot.f (m + 8) (c : Int) = some (class_Of.slot c) := by
  have hc : c = 0 ∨ c = 1 ∨ c = 2 ∨ c = 3 ∨ c = 4 ∨ c = 5 := by omega
  refine at_rounds (g := fun k => atticref11_Slot.f k (c : Int)) (fun k => atticref11_Slot.mono _ k) (k := 8) (by omega) ?_
  rcases hc with rfl | rfl | rfl | rfl | rfl | rfl <;> decide +kernel
theorem of_w (a b c : Int) : class_Of.f a b c = some (if chk a b c = 0 then class_Of.ofN (sizeN a b c) else (0, chk a b c)) := by
  unfold class_Of.f
  rw [chk_w, size_w]
  simp only [Option.bind_some]
  split <;> rfl
theorem of_r (m : Nat) (a b c : Int) : atticref11_Of.f (m + 20) a b c = some (if chk a b c = 0 then class_Of.ofN (sizeN a b c) else (0, chk a b c)) := by
  unfold atticref11_Of.f
  rw [chk_r]
  simp only [Option.bind_some]
  by_cases h : chk a b c = 0
  · rw [if_pos h, if_pos h]
    have e : ∀ (k i : Nat), i < 6 → atticref11_Of.l0 (k + 8 + 1) (i : Int) a b c = if sizeN a b c ≤ class_Of.slot i then some ((i : Int), 0) else atticref11_Of.l0 (k + 8) ((i + 1 : Nat) : Int) a b c := by
      intro k i hi
      rw [atticref11_Of.l0, if_pos (by omega), size_r, slot_r k i hi]
      simp only [Option.bind_some]
      rw [show wrap64 ((i : Int) + 1) = ((i + 1 : Nat) : Int) by unfold wrap64; omega]
    have e0 := e (m + 11) 0 (by omega)
    have e1 := e (m + 10) 1 (by omega)
    have e2 := e (m + 9) 2 (by omega)
    have e3 := e (m + 8) 3 (by omega)
    have e4 := e (m + 7) 4 (by omega)
    have e5 := e (m + 6) 5 (by omega)
    have e6 : atticref11_Of.l0 (m + 6 + 8) ((5 + 1 : Nat) : Int) a b c = some (0, 111) := by
      show atticref11_Of.l0 (m + 13 + 1) 6 a b c = _
      rw [atticref11_Of.l0, if_neg (by omega)]
    show atticref11_Of.l0 (m + 11 + 8 + 1) ((0 : Nat) : Int) a b c = _
    rw [e0]
    show (if _ then _ else atticref11_Of.l0 (m + 10 + 8 + 1) ((1 : Nat) : Int) a b c) = _
    rw [e1]
    show (if _ then _ else if _ then _ else atticref11_Of.l0 (m + 9 + 8 + 1) ((2 : Nat) : Int) a b c) = _
    rw [e2]
    show (if _ then _ else if _ then _ else if _ then _ else atticref11_Of.l0 (m + 8 + 8 + 1) ((3 : Nat) : Int) a b c) = _
    rw [e3]
    show (if _ then _ else if _ then _ else if _ then _ else if _ then _ else atticref11_Of.l0 (m + 7 + 8 + 1) ((4 : Nat) : Int) a b c) = _
    rw [e4]
    show (if _ then _ else if _ then _ else if _ then _ else if _ then _ else if _ then _ else atticref11_Of.l0 (m + 6 + 8 + 1) ((5 : Nat) : Int) a b c) = _
    rw [e5, e6]
    unfold class_Of.ofN
    show (if sizeN a b c ≤ 32 then _ else if sizeN a b c ≤ 64 then _ else if sizeN a b c ≤ 128 then _ else if sizeN a b c ≤ 256 then _ else if sizeN a b c ≤ 512 then _ else if sizeN a b c ≤ 1024 then _ else _) = _
    (repeat' split) <;> rfl
  · rw [if_neg h, if_neg h]

/-! ### Numbers of seven bits a byte -/
theorem or128 (x : Int) : Go.bits .or .u8 (x % 256) 128 = x % 128 + 128 := by
  rw [u8_or _ _ (by omega) (by omega) (by omega) (by omega)]
  have key : ∀ y : Fin 256, (y.val ||| 128) = y.val % 128 + 128 := by decide +kernel
  have := key ⟨(x % 256).toNat, by omega⟩
  simp only [] at this
  rw [show (128 : Int).toNat = 128 from rfl, this]
  omega
theorem and127 (c : Int) (h0 : 0 ≤ c) (h1 : c < 256) : Go.bits .and .u8 c 127 = c % 128 := by
  rw [u8_and _ _ (by omega) (by omega) (by omega) (by omega)]
  have key : ∀ y : Fin 256, (y.val &&& 127) = y.val % 128 := by decide +kernel
  have := key ⟨c.toNat, by omega⟩
  simp only [] at this
  rw [show (127 : Int).toNat = 127 from rfl, this]
  omega
theorem u64w (n : Int) (h0 : 0 ≤ n) (h : n < 18446744073709551616) : IntKind.u64.wrap n = n := by rw [IntKind.wrap_u64]; omega
theorem shl_u64 (c j : Nat) (hj : j ≤ 64) (h : c * 2 ^ j < 18446744073709551616) : shl .u64 (c : Int) (j : Int) = ((c * 2 ^ j : Nat) : Int) := by
  unfold shl
  rw [Int.toNat_natCast, Nat.min_eq_left (show j ≤ IntKind.u64.bits from hj), show ((c : Int) * 2 ^ j) = ((c * 2 ^ j : Nat) : Int) by simp, u64w _ (by omega) (by omega)]
theorem or_shl (v c j : Nat) (hj : j ≤ 64) (hv : v < 2 ^ j) (h : c * 2 ^ j < 18446744073709551616) (h2 : v < 18446744073709551616) : Go.bits .or .u64 (v : Int) (shl .u64 (c : Int) (j : Int)) = ((v + c * 2 ^ j : Nat) : Int) := by
  rw [shl_u64 c j hj h, u64_or_nat v _ h2 h, Nat.or_comm, Nat.mul_comm, ← Nat.two_pow_add_eq_or_of_lt hv, Nat.add_comm]
theorem add_shl (v c j : Nat) (hj : j ≤ 64) (h : v + c * 2 ^ j < 18446744073709551616) : IntKind.u64.wrap ((v : Int) + shl .u64 (c : Int) (j : Int)) = ((v + c * 2 ^ j : Nat) : Int) := by
  rw [shl_u64 c j hj (by omega), u64w _ (by omega) (by omega)]
  simp
theorem equal_self (l : List Int) : bytes_Equal.f l l = some true := by unfold bytes_Equal.f; simp
theorem w64id {x : Int} (h0 : -9223372036854775808 ≤ x) (h : x ≤ 9223372036854775807) : wrap64 x = x := by unfold wrap64; omega
theorem rd_take {l : List Int} {n : Nat} {i : Nat} (h : i < n) : rd (l.take n) i = rd l i := by
  unfold rd
  rw [List.getD_eq_getElem?_getD, List.getD_eq_getElem?_getD, List.getElem?_take, show ((i : Int).toNat) = i by omega, if_pos h]

/-! ### A number's bytes -/
theorem u64_nonneg_wrap8 (i : Nat) (h : i ≤ 8) : wrap64 (8 * (i : Int)) = ((8 * i : Nat) : Int) := by rw [w64id (by omega) (by omega)]; simp
def numL (n : Nat) (v : Nat) : List Int := (List.range n).map fun i => ((v / 256 ^ i % 256 : Nat) : Int)
theorem numL_length (n v : Nat) : (numL n v).length = n := by simp [numL]
theorem numL_get (n v i : Nat) (h : i < n) : (numL n v)[i]? = some ((v / 256 ^ i % 256 : Nat) : Int) := by simp [numL, h]
theorem pow8 (i : Nat) : 2 ^ (8 * i) = 256 ^ i := by rw [Nat.pow_mul]
theorem shr_num (v i : Nat) (h : i ≤ 8) : (shr .u64 (v : Int) ((8 * i : Nat) : Int)) % 256 = ((v / 256 ^ i % 256 : Nat) : Int) := by
  unfold shr
  rw [Int.toNat_natCast, Nat.min_eq_left (show 8 * i ≤ IntKind.u64.bits by show 8 * i ≤ 64; omega), show ((2 : Int) ^ (8 * i)) = ((256 ^ i : Nat) : Int) by rw [← pow8]; simp]
  simp
theorem num_l0 (d : Nat) : ∀ (k v n i : Nat) (x : List Int), n ≤ 8 → i + d = n → x.length = n → x.take i = (numL n v).take i → d < k → word_Num.l0 k v x n i = some (numL n v) := by
  induction d with
  | zero =>
    intro k v n i x hn hi hx ht hk
    obtain ⟨k, rfl⟩ : ∃ m, k = m + 1 := ⟨k - 1, by omega⟩
    obtain rfl : i = n := by omega
    rw [word_Num.l0, if_neg (by omega)]
    rw [List.take_of_length_le (by omega), List.take_of_length_le (by rw [numL_length]; omega)] at ht
    rw [ht]
  | succ d ih =>
    intro k v n i x hn hi hx ht hk
    obtain ⟨k, rfl⟩ : ∃ m, k = m + 1 := ⟨k - 1, by omega⟩
    rw [word_Num.l0, u64_nonneg_wrap8 i (by omega), shr_num v i (by omega), if_pos (by omega), if_pos (by omega), if_pos (by omega), if_pos (by omega), w64_succ (by omega) (by omega), Int.toNat_natCast]
    exact ih k v n (i + 1) _ hn (by omega) (by simpa using hx) (take_set (by rw [numL_length]; omega) ht (by rw [numL_length]; omega) (numL_get n v i (by omega))) (by omega)
theorem rnum_l0 (d : Nat) : ∀ (k v n i : Nat), n ≤ 8 → i + d = n → d < k → atticref01_Num.l0 k n v ((numL n v).take i) i = some (numL n v) := by
  induction d with
  | zero =>
    intro k v n i hn hi hk
    obtain ⟨k, rfl⟩ : ∃ m, k = m + 1 := ⟨k - 1, by omega⟩
    obtain rfl : i = n := by omega
    rw [atticref01_Num.l0, if_neg (by omega), List.take_of_length_le (by rw [numL_length]; omega)]
  | succ d ih =>
    intro k v n i hn hi hk
    obtain ⟨k, rfl⟩ : ∃ m, k = m + 1 := ⟨k - 1, by omega⟩
    rw [atticref01_Num.l0, u64_nonneg_wrap8 i (by omega), u64w _ (by omega) (by omega), shr_num v i (by omega), if_pos (by omega), if_pos (by omega), if_pos (by rw [List.length_take, numL_length]; omega), w64_succ (by omega) (by omega)]
    have h := numL_get n v i (by omega)
    have h2 : (numL n v).take (i + 1) = (numL n v).take i ++ [((v / 256 ^ i % 256 : Nat) : Int)] := by rw [List.take_add_one, h]; rfl
    rw [← h2]
    exact ih k v n (i + 1) hn (by omega) (by omega)
theorem num_f (k : Nat) (n : Int) (v : Nat) (hk : 10 ≤ k) : word_Num.f k n v = some (if n < 1 ∨ n > 8 then [] else numL n.toNat v) := by
  obtain ⟨k, rfl⟩ : ∃ m, k = m + 1 := ⟨k - 1, by omega⟩
  unfold word_Num.f
  by_cases h : n < 1
  · rw [if_pos h, word_Num.j0, if_pos rfl, if_pos (.inl h)]
  · rw [if_neg h, word_Num.j0]
    by_cases h8 : n > 8
    · rw [if_pos (by simpa using h8), if_pos (.inr h8)]
    · rw [if_neg (by simpa using h8), if_pos (by omega), if_pos (by omega), if_neg (by omega)]
      obtain ⟨m, rfl⟩ : ∃ m : Nat, n = m := ⟨n.toNat, by omega⟩
      rw [Int.toNat_natCast]
      exact num_l0 m k v m 0 _ (by omega) (by omega) (by simp) rfl (by omega)
theorem rnum_f (k : Nat) (n : Int) (v : Nat) (hk : 10 ≤ k) : atticref01_Num.f k n v = some (if n < 1 ∨ n > 8 then [] else numL n.toNat v) := by
  obtain ⟨k, rfl⟩ : ∃ m, k = m + 1 := ⟨k - 1, by omega⟩
  unfold atticref01_Num.f
  by_cases h : n < 1
  · rw [if_pos h, atticref01_Num.j0, if_pos rfl, if_pos (.inl h)]
  · rw [if_neg h, atticref01_Num.j0]
    by_cases h8 : n > 8
    · rw [if_pos (by simpa using h8), if_pos (.inr h8)]
    · rw [if_neg (by simpa using h8), if_neg (by omega)]
      obtain ⟨m, rfl⟩ : ∃ m : Nat, n = m := ⟨n.toNat, by omega⟩
      rw [Int.toNat_natCast]
      exact rnum_l0 m k v m 0 (by omega) (by omega) (by omega)
/-! ### The number that stands in bytes -/
def gnum : List Int → Nat
  | [] => 0
  | c :: l => c.toNat + 256 * gnum l
theorem gnum_lt : ∀ l : List Int, Bytes l → gnum l < 256 ^ l.length
  | [], _ => by simp [gnum]
  | c :: l, h => by
    have ih := gnum_lt l (fun x hx => h x (List.mem_cons_of_mem _ hx))
    have hc := h c List.mem_cons_self
    rw [List.length_cons, Nat.pow_succ]
    show c.toNat + 256 * gnum l < _
    omega
theorem gnum_snoc : ∀ (l : List Int) (c : Int), gnum (l ++ [c]) = gnum l + c.toNat * 256 ^ l.length
  | [], c => by simp [gnum]
  | x :: l, c => by
    show x.toNat + 256 * gnum (l ++ [c]) = (x.toNat + 256 * gnum l) + _
    rw [gnum_snoc l c, List.length_cons, Nat.pow_succ, Nat.mul_add]
    have : 256 * (c.toNat * 256 ^ l.length) = c.toNat * (256 ^ l.length * 256) := by rw [Nat.mul_comm 256, Nat.mul_assoc]
    omega
theorem gnum_take (l : List Int) (i : Nat) (h : i < l.length) : gnum (l.take (i + 1)) = gnum (l.take i) + l[i].toNat * 256 ^ i := by
  rw [List.take_succ_eq_append_getElem h, gnum_snoc, List.length_take, Nat.min_eq_left (by omega)]
/-- The number of n bytes from at on. -/
def getL (l : List Int) (at_ n : Nat) : Nat := gnum ((l.drop at_).take n)
theorem getL_succ (l : List Int) (p i : Nat) (h : p + i < l.length) : getL l p (i + 1) = getL l p i + l[p + i].toNat * 256 ^ i := by
  unfold getL
  rw [gnum_take _ _ (by rw [List.length_drop]; omega), List.getElem_drop]
theorem getL_lt (l : List Int) (p i : Nat) (hb : Bytes l) (h : p + i ≤ l.length) : getL l p i < 256 ^ i := by
  unfold getL
  have := gnum_lt ((l.drop p).take i) (fun x hx => hb x (List.mem_of_mem_drop (List.mem_of_mem_take hx)))
  rwa [List.length_take, List.length_drop, Nat.min_eq_left (by omega)] at this
theorem get_step (l : List Int) (p i : Nat) (hb : Bytes l) (h : p + i < l.length) (hi : i < 8) :
    Go.bits .or .u64 (getL l p i : Int) (shl .u64 (IntKind.u64.wrap (l[p + i])) ((8 * i : Nat) : Int)) = (getL l p (i + 1) : Int) ∧
    IntKind.u64.wrap ((getL l p i : Int) + shl .u64 (IntKind.u64.wrap (l[p + i])) ((8 * i : Nat) : Int)) = (getL l p (i + 1) : Int) := by
  have hc := hb _ (List.getElem_mem h)
  have h1 := getL_lt l p i hb (by omega)
  have h2 := getL_lt l p (i + 1) hb (by omega)
  have h3 := getL_succ l p i h
  have h4 : 256 ^ (i + 1) ≤ 256 ^ 8 := Nat.pow_le_pow_right (by decide) (by omega)
  have h5 : l[p + i] = ((l[p + i].toNat : Nat) : Int) := by omega
  have h6 := pow8 i
  rw [u64w (l[p + i]) (by omega) (by omega), h5]
  rw [← h6] at h3
  constructor
  · rw [or_shl _ _ _ (by omega) (by omega) (by omega) (by omega), h3]
  · rw [add_shl _ _ _ (by omega) (by omega), h3]
theorem get_l0 (d : Nat) : ∀ (k p n i : Nat) (l : List Int), Bytes l → l.length ≤ 9223372036854775000 → n ≤ 8 → p + n ≤ l.length → i + d = n → d < k →
    word_Get.l0 k l p (getL l p i : Nat) n i = some ((getL l p n : Int), true) ∧ atticref01_Get.l0 k l p n (getL l p i : Nat) i = some ((getL l p n : Int), true) := by
  induction d with
  | zero =>
    intro k p n i l hb hl hn hp hi hk
    obtain ⟨k, rfl⟩ : ∃ m, k = m + 1 := ⟨k - 1, by omega⟩
    obtain rfl : i = n := by omega
    rw [word_Get.l0, if_neg (by omega), atticref01_Get.l0, if_neg (by omega)]
    exact ⟨rfl, rfl⟩
  | succ d ih =>
    intro k p n i l hb hl hn hp hi hk
    obtain ⟨k, rfl⟩ : ∃ m, k = m + 1 := ⟨k - 1, by omega⟩
    have hlt : p + i < l.length := by omega
    have hrd : rd l ((p : Int) + (i : Int)) = l[p + i] := by rw [show ((p : Int) + (i : Int)) = ((p + i : Nat) : Int) by omega]; exact rd_nat hlt
    have w1 : wrap64 ((p : Int) + (i : Int)) = (p : Int) + (i : Int) := w64id (by omega) (by omega)
    have h := ih k p n (i + 1) l hb hl hn hp (by omega) (by omega)
    have c1 : ((i : Int) < (n : Int)) = True := eq_true (by omega)
    have c2 : ((0 : Int) ≤ (p : Int) + (i : Int)) = True := eq_true (by omega)
    have c3 : ((p : Int) + (i : Int) < (l.length : Int)) = True := eq_true (by omega)
    have c4 : ((0 : Int) ≤ ((8 * i : Nat) : Int)) = True := eq_true (by omega)
    have w2 : wrap64 ((i : Int) + 1) = ((i + 1 : Nat) : Int) := by rw [w64_succ (by omega) (by omega)]; omega
    have w3 := u64_nonneg_wrap8 i (by omega)
    have w4 : IntKind.u64.wrap ((8 * i : Nat) : Int) = ((8 * i : Nat) : Int) := u64w _ (by omega) (by omega)
    have hi8 : i < 8 := by omega
    clear hl hi hk
    obtain ⟨s1, s2⟩ := get_step l p i hb hlt hi8
    constructor
    · rw [word_Get.l0]
      simp only [w1, w2, w3, hrd, s1, c1, c2, c3, c4, if_true]
      exact h.1
    · rw [atticref01_Get.l0]
      simp only [w1, w2, w3, w4, hrd, s2, c1, c2, c3, c4, if_true]
      exact h.2
/-- What Get answers. -/
def getA (l : List Int) (p n : Int) : Int × Bool := if n < 1 ∨ n > 8 ∨ p < 0 ∨ p > l.length ∨ n > l.length - p then (0, false) else ((getL l p.toNat n.toNat : Int), true)
theorem get_f (k : Nat) (l : List Int) (p n : Int) (hb : Bytes l) (hl : l.length ≤ 9223372036854775000) (hk : 10 ≤ k) : word_Get.f k l p n = some (getA l p n) ∧ atticref01_Get.f k l p n = some (getA l p n) := by
  obtain ⟨k, rfl⟩ : ∃ m, k = m + 1 := ⟨k - 1, by omega⟩
  unfold word_Get.f atticref01_Get.f getA
  by_cases h1 : n < 1
  · rw [if_pos h1, if_pos h1, if_pos (.inl h1), word_Get.j0, atticref01_Get.j0, if_pos rfl, if_pos rfl]; exact ⟨rfl, rfl⟩
  by_cases h2 : n > 8
  · rw [if_neg h1, if_neg h1, if_pos h2, if_pos h2, if_pos (.inr (.inl h2)), word_Get.j0, atticref01_Get.j0, if_pos rfl, if_pos rfl]; exact ⟨rfl, rfl⟩
  by_cases h3 : p < 0
  · rw [if_neg h1, if_neg h1, if_neg h2, if_neg h2, if_pos h3, if_pos h3, if_pos (.inr (.inr (.inl h3))), word_Get.j0, atticref01_Get.j0, if_pos rfl, if_pos rfl]; exact ⟨rfl, rfl⟩
  by_cases h4 : p > (l.length : Int)
  · rw [if_neg h1, if_neg h1, if_neg h2, if_neg h2, if_neg h3, if_neg h3, if_pos h4, if_pos h4, if_pos (.inr (.inr (.inr (.inl h4)))), word_Get.j0, atticref01_Get.j0, if_pos rfl, if_pos rfl]; exact ⟨rfl, rfl⟩
  rw [if_neg h1, if_neg h1, if_neg h2, if_neg h2, if_neg h3, if_neg h3, if_neg h4, if_neg h4, w64id (by omega) (by omega)]
  by_cases h5 : n > (l.length : Int) - p
  · rw [if_pos (.inr (.inr (.inr (.inr h5)))), word_Get.j0, atticref01_Get.j0, if_pos (by simpa using h5), if_pos (by simpa using h5)]; exact ⟨rfl, rfl⟩
  · rw [if_neg (by omega), word_Get.j0, atticref01_Get.j0, if_neg (by simpa using h5), if_neg (by simpa using h5)]
    obtain ⟨m, rfl⟩ : ∃ m : Nat, n = m := ⟨n.toNat, by omega⟩
    obtain ⟨q, rfl⟩ : ∃ q : Nat, p = q := ⟨p.toNat, by omega⟩
    rw [Int.toNat_natCast, Int.toNat_natCast]
    exact get_l0 m k q m 0 l hb hl (by omega) (by omega) (by omega) (by omega)

def OF (a b c : Int) : Int × Int := if chk a b c = 0 then class_Of.ofN (sizeN a b c) else (0, chk a b c)
theorem OF_chk {a b c : Int} (h : (OF a b c).2 = 0) : chk a b c = 0 := by
  unfold OF at h
  split at h
  · assumption
  · exact h
def hdL (a b c g : Int) : List Int := [a % 256, b % 256] ++ numL 2 c.toNat ++ [0, 0, 0, 0] ++ numL 8 g.toNat
theorem u64_pos {x : Int} (h : 0 ≤ x ∧ x < 4611686018427387904) : IntKind.u64.wrap x = ((x.toNat : Nat) : Int) := by
  rw [u64w _ (by omega) (by omega)]
  omega
theorem len2 {l : List Int} (h : l.length = 2) : ∃ u v, l = [u, v] := by
  match l, h with
  | [u, v], _ => exact ⟨u, v, rfl⟩
theorem len8 {l : List Int} (h : l.length = 8) : ∃ a b c d e f g i, l = [a, b, c, d, e, f, g, i] := by
  match l, h with
  | [a, b, c, d, e, f, g, i], _ => exact ⟨a, b, c, d, e, f, g, i, rfl⟩
def HD (a b c g : Int) : List Int × Int := if (OF a b c).2 = 0 then (if 1 ≤ g ∧ g ≤ 1099511627776 then (hdL a b c g, 0) else ([], 1)) else ([], (OF a b c).2)
theorem hdj_w (k : Nat) (a b c g : Int) (hc : 0 ≤ c ∧ c ≤ 1008) (hg : 1 ≤ g ∧ g ≤ 1099511627776) (hk : 11 ≤ k) : object_Head.j0 k g false a b c = some (hdL a b c g, 0) := by
  obtain ⟨k, rfl⟩ : ∃ m, k = m + 1 := ⟨k - 1, by omega⟩
  rw [object_Head.j0, u64_pos (x := c) (by omega), u64_pos (x := g) (by omega), if_neg (by decide), if_pos (by decide)]
  have h2 := num_f k 2 c.toNat (by omega)
  have h8 := num_f k 8 g.toNat (by omega)
  rw [if_neg (by decide)] at h2 h8
  rw [h2, h8]
  unfold hdL
  obtain ⟨u, v, e2⟩ := len2 (numL_length 2 c.toNat)
  obtain ⟨q0, q1, q2, q3, q4, q5, q6, q7, e8⟩ := len8 (numL_length 8 g.toNat)
  rw [show (2 : Int).toNat = 2 from rfl, show (8 : Int).toNat = 8 from rfl, e2, e8]
  rfl
theorem hdj_r (k : Nat) (a b c g : Int) (hc : 0 ≤ c ∧ c ≤ 1008) (hg : 1 ≤ g ∧ g ≤ 1099511627776) (hk : 11 ≤ k) : atticref13_Head.j0 k g false a b c = some (hdL a b c g, 0) := by
  obtain ⟨k, rfl⟩ : ∃ m, k = m + 1 := ⟨k - 1, by omega⟩
  rw [atticref13_Head.j0, u64_pos (x := c) (by omega), u64_pos (x := g) (by omega), if_neg (by decide)]
  have h2 := rnum_f k 2 c.toNat (by omega)
  have h8 := rnum_f k 8 g.toNat (by omega)
  rw [if_neg (by decide)] at h2 h8
  rw [h2, h8]
  unfold hdL
  obtain ⟨u, v, e2⟩ := len2 (numL_length 2 c.toNat)
  obtain ⟨q0, q1, q2, q3, q4, q5, q6, q7, e8⟩ := len8 (numL_length 8 g.toNat)
  rw [show (2 : Int).toNat = 2 from rfl, show (8 : Int).toNat = 8 from rfl, e2, e8]
  rfl
theorem head_w (k : Nat) (a b c g : Int) (hk : 40 ≤ k) : object_Head.f k a b c g = some (HD a b c g) := by
  unfold object_Head.f
  rw [of_w]
  show (if (OF a b c).2 = 0 then _ else _) = _
  unfold HD
  split
  · rename_i h
    have hb := chk_ok (OF_chk h)
    split
    · rename_i h1
      obtain ⟨k, rfl⟩ : ∃ m, k = m + 1 := ⟨k - 1, by omega⟩
      rw [object_Head.j0, if_pos rfl, if_neg (by omega)]
    · rename_i h1
      by_cases h2 : g > 1099511627776
      · obtain ⟨k, rfl⟩ : ∃ m, k = m + 1 := ⟨k - 1, by omega⟩
        rw [decide_eq_true h2, object_Head.j0, if_pos rfl, if_neg (by omega)]
      · rw [decide_eq_false h2, hdj_w k a b c g hb.2.2.1 (by omega) (by omega), if_pos (by omega)]
  · rfl
theorem head_r (k : Nat) (a b c g : Int) (hk : 40 ≤ k) : atticref13_Head.f k a b c g = some (HD a b c g) := by
  unfold atticref13_Head.f
  obtain ⟨m, rfl⟩ : ∃ m, k = m + 20 := ⟨k - 20, by omega⟩
  rw [of_r]
  show (if (OF a b c).2 = 0 then _ else _) = _
  unfold HD
  split
  · rename_i h
    have hb := chk_ok (OF_chk h)
    split
    · rename_i h1
      rw [atticref13_Head.j0, if_pos rfl, if_neg (by omega)]
    · rename_i h1
      by_cases h2 : g > 1099511627776
      · rw [decide_eq_true h2, atticref13_Head.j0, if_pos rfl, if_neg (by omega)]
      · rw [decide_eq_false h2, hdj_r _ a b c g hb.2.2.1 (by omega) (by omega), if_pos (by omega)]
  · rfl

theorem OF_cls {a b c : Int} (h : (OF a b c).2 = 0) : ∃ n : Nat, n < 6 ∧ (OF a b c).1 = (n : Int) := by
  have hc := OF_chk h
  unfold OF at h ⊢
  rw [if_pos hc] at h ⊢
  unfold class_Of.ofN at h ⊢
  split
  · exact ⟨0, by decide, rfl⟩
  split
  · exact ⟨1, by decide, rfl⟩
  split
  · exact ⟨2, by decide, rfl⟩
  split
  · exact ⟨3, by decide, rfl⟩
  split
  · exact ⟨4, by decide, rfl⟩
  split
  · exact ⟨5, by decide, rfl⟩
  · exfalso
    revert h
    repeat rw [if_neg (by omega)]
    decide
theorem slot_bd (n : Nat) (h : n < 6) : ∃ s : Nat, class_Of.slot n = (s : Int) ∧ 32 ≤ s ∧ s ≤ 1024 := by
  have hc : n = 0 ∨ n = 1 ∨ n = 2 ∨ n = 3 ∨ n = 4 ∨ n = 5 := by omega
  rcases hc with rfl | rfl | rfl | rfl | rfl | rfl
  · exact ⟨32, by decide, by decide, by decide⟩
  · exact ⟨64, by decide, by decide, by decide⟩
  · exact ⟨128, by decide, by decide, by decide⟩
  · exact ⟨256, by decide, by decide, by decide⟩
  · exact ⟨512, by decide, by decide, by decide⟩
  · exact ⟨1024, by decide, by decide, by decide⟩
theorem hdL_length (a b c g : Int) : (hdL a b c g).length = 16 := by
  unfold hdL
  simp [numL_length]
def SL (a b c : Int) : Nat := (class_Of.slot (OF a b c).1.toNat).toNat
def MK (a b c g : Int) : List Int × Int := if (HD a b c g).2 = 0 then ((HD a b c g).1 ++ List.replicate (SL a b c - 16) 0, 0) else ([], (HD a b c g).2)
theorem HD_OF {a b c g : Int} (h : (HD a b c g).2 = 0) : (OF a b c).2 = 0 ∧ (HD a b c g).1 = hdL a b c g := by
  unfold HD at h ⊢
  by_cases h0 : (OF a b c).2 = 0
  · rw [if_pos h0] at h ⊢
    by_cases h1 : 1 ≤ g ∧ g ≤ 1099511627776
    · rw [if_pos h1]
      exact ⟨h0, rfl⟩
    · rw [if_neg h1] at h
      exact absurd h (by decide : ¬ ((1 : Int) = 0))
  · rw [if_neg h0] at h
    exact absurd h h0
theorem SL_of {a b c : Int} (h : (OF a b c).2 = 0) : ∃ n s : Nat, n < 6 ∧ (OF a b c).1 = (n : Int) ∧ class_Of.slot n = (s : Int) ∧ SL a b c = s ∧ 32 ≤ s ∧ s ≤ 1024 := by
  obtain ⟨n, hn, e⟩ := OF_cls h
  obtain ⟨s, hs, h1, h2⟩ := slot_bd n hn
  refine ⟨n, s, hn, e, hs, ?_, h1, h2⟩
  unfold SL
  rw [e, Int.toNat_natCast, hs, Int.toNat_natCast]
theorem make_w (k : Nat) (a b c g : Int) (hk : 40 ≤ k) : object_Make.f k a b c g = some (MK a b c g) := by
  unfold object_Make.f
  rw [head_w k a b c g hk]
  show (if (HD a b c g).2 = 0 then _ else _) = _
  unfold MK
  split
  · rename_i h
    obtain ⟨h0, h1⟩ := HD_OF h
    obtain ⟨n, s, hn, e, hs, hsl, s1, s2⟩ := SL_of h0
    rw [of_w]
    show (class_Slot.f (OF a b c).1).bind _ = _
    rw [e, class_Of.slotf n hn, hs, h1, hsl]
    simp only [Option.bind_some]
    rw [if_pos (by omega), Int.toNat_natCast, if_pos (by omega)]
    have hl := hdL_length a b c g
    generalize hdL a b c g = H at hl
    rw [List.length_replicate, hl, List.take_zero, List.nil_append, List.take_of_length_le (by omega), List.drop_replicate]
  · rfl
theorem rmake_l0 (n s : Nat) (hn : n < 6) (hs : class_Of.slot n = (s : Int)) (hb : s ≤ 1024) (d : Nat) : ∀ (k : Nat) (x : List Int), x.length + d = s → d + 10 ≤ k → atticref13_Make.l0 k x (n : Int) = some (x ++ List.replicate d 0, 0) := by
  induction d with
  | zero =>
    intro k x hx hk
    obtain ⟨k, rfl⟩ : ∃ m, k = m + 8 + 1 := ⟨k - 9, by omega⟩
    rw [atticref13_Make.l0, slot_r k n hn, hs]
    simp only [Option.bind_some]
    rw [if_neg (by omega)]
    simp
  | succ d ih =>
    intro k x hx hk
    obtain ⟨k, rfl⟩ : ∃ m, k = m + 8 + 1 := ⟨k - 9, by omega⟩
    rw [atticref13_Make.l0, slot_r k n hn, hs]
    simp only [Option.bind_some]
    rw [if_pos (by omega), if_pos (by omega), ih (k + 8) (x ++ [0]) (by simp; omega) (by omega), List.append_assoc]
    rfl
theorem make_r (k : Nat) (a b c g : Int) (hk : 1100 ≤ k) : atticref13_Make.f k a b c g = some (MK a b c g) := by
  unfold atticref13_Make.f
  rw [head_r k a b c g (by omega)]
  show (if (HD a b c g).2 = 0 then _ else _) = _
  unfold MK
  split
  · rename_i h
    obtain ⟨h0, h1⟩ := HD_OF h
    obtain ⟨n, s, hn, e, hs, hsl, s1, s2⟩ := SL_of h0
    obtain ⟨m, rfl⟩ : ∃ m, k = m + 20 := ⟨k - 20, by omega⟩
    rw [of_r]
    show atticref13_Make.l0 (m + 20) (HD a b c g).1 (OF a b c).1 = _
    rw [e, h1, hsl]
    exact rmake_l0 n s hn hs s2 (s - 16) _ _ (by rw [hdL_length]; omega) (by omega)
  · rfl

theorem ofNat_inj8 {x y : Int} (hx : 0 ≤ x ∧ x < 256) (hy : 0 ≤ y ∧ y < 256) (h : UInt8.ofNat x.toNat = UInt8.ofNat y.toNat) : x = y := by
  have h2 := congrArg UInt8.toNat h
  simp only [UInt8.toNat_ofNat'] at h2
  omega
theorem map8_inj : ∀ (x y : List Int), Bytes x → Bytes y → (x.map fun n => UInt8.ofNat n.toNat) = (y.map fun n => UInt8.ofNat n.toNat) → x = y
  | [], [], _, _, _ => rfl
  | [], _ :: _, _, _, h => by simp at h
  | _ :: _, [], _, _, h => by simp at h
  | a :: x, b :: y, hx, hy, h => by
    simp only [List.map_cons, List.cons.injEq] at h
    rw [ofNat_inj8 (hx a (by simp)) (hy b (by simp)) h.1, map8_inj x y (fun z hz => hx z (by simp [hz])) (fun z hz => hy z (by simp [hz])) h.2]
theorem equal_f (x y : List Int) (hx : Bytes x) (hy : Bytes y) : bytes_Equal.f x y = some (decide (x = y)) := by
  unfold bytes_Equal.f
  congr 1
  by_cases h : x = y
  · subst h
    simp
  · rw [decide_eq_false h, Go.Lib.strOfNums_toList, Go.Lib.strOfNums_toList, beq_eq_false_iff_ne]
    intro e
    exact h (map8_inj x y hx hy e)
theorem same_l0 (x y : List Int) (hl : x.length = y.length) (hb : x.length ≤ 1000) (d : Nat) : ∀ (k i : Nat), i + d = x.length → x.take i = y.take i → d < k → atticref01_Same.l0 k x y (i : Int) = some (decide (x = y)) := by
  induction d with
  | zero =>
    intro k i hi ht hk
    obtain ⟨k, rfl⟩ : ∃ m, k = m + 1 := ⟨k - 1, by omega⟩
    rw [atticref01_Same.l0, if_neg (by omega)]
    rw [List.take_of_length_le (by omega), List.take_of_length_le (by omega)] at ht
    rw [decide_eq_true ht]
  | succ d ih =>
    intro k i hi ht hk
    obtain ⟨k, rfl⟩ : ∃ m, k = m + 1 := ⟨k - 1, by omega⟩
    have h1 : i < x.length := by omega
    have h2 : i < y.length := by omega
    have w : wrap64 ((i : Int) + 1) = ((i + 1 : Nat) : Int) := by clear ih ht; rw [w64id (by omega) (by omega)]; simp
    rw [atticref01_Same.l0, if_pos (by omega), if_pos (by omega), if_pos (by omega), w, rd_nat h1, rd_nat h2]
    by_cases he : x[i] = y[i]
    · rw [if_pos he]
      refine ih k (i + 1) (by omega) ?_ (by omega)
      rw [List.take_succ_eq_append_getElem h1, List.take_succ_eq_append_getElem h2, ht, he]
    · rw [if_neg he, decide_eq_false]
      intro e
      subst e
      exact he rfl
theorem same_f (k : Nat) (x y : List Int) (hl : x.length = y.length) (hb : x.length ≤ 1000) (hk : 1002 ≤ k) : atticref01_Same.f k x y = some (decide (x = y)) := by
  unfold atticref01_Same.f
  rw [if_pos (by omega)]
  exact same_l0 x y hl hb x.length k 0 (by omega) rfl (by omega)
theorem numL_bytes (n v : Nat) : Bytes (numL n v) := by
  intro x hx
  unfold numL at hx
  obtain ⟨i, _, rfl⟩ := List.mem_map.1 hx
  have : v / 256 ^ i % 256 < 256 := Nat.mod_lt _ (by decide)
  generalize v / 256 ^ i % 256 = z at this
  omega
theorem hdL_bytes (a b c g : Int) : Bytes (hdL a b c g) := by
  intro x hx
  unfold hdL at hx
  simp only [List.mem_append] at hx
  rcases hx with ((hx | hx) | hx) | hx
  · simp only [List.mem_cons, List.not_mem_nil, or_false] at hx
    rcases hx with rfl | rfl <;> omega
  · exact numL_bytes _ _ x hx
  · simp at hx
    omega
  · exact numL_bytes _ _ x hx
end Go.Proofs.Ytckdnkiacnonkaa.Pure
