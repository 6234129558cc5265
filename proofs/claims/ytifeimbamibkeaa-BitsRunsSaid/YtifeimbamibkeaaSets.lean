/- Plain lemmas on rows put together byte by byte, and bit by bit, and on a row that lies within another one; for all rows below 2^47 bytes. -/
import Derived.Test.YtifeimbamibkeaaPAllx
import Derived.Test.YtifeimbamibkeaaBit
namespace Go.Proofs.Ytifeimbamibkeaa.Pure
open Go.RowKit Go.Proofs.Ytifeimbamibkeaa.PAll Go.Proofs.YtifeimbamibkeaaW.PrintWords Go.Proofs.YtifeimbamibkeaaW.PrintLast Go.Proofs.YtifeimbamibkeaaW.PrintMore
set_option linter.unusedVariables false

/-- An operation on bytes that goes bit by bit. -/
structure Bitwise (op : Int → Int → Int) (g : Bool → Bool → Bool) : Prop where
  lt : ∀ x y : Int, 0 ≤ x ∧ x < 256 → 0 ≤ y ∧ y < 256 → 0 ≤ op x y ∧ op x y < 256
  bit : ∀ x y : Int, 0 ≤ x ∧ x < 256 → 0 ≤ y ∧ y < 256 → ∀ t, t < 8 → (op x y).toNat.testBit t = g (x.toNat.testBit t) (y.toNat.testBit t)
theorem bw_and : Bitwise (fun x y => Go.bits .and .u8 x y) (fun a b => a && b) where
  lt x y hx hy := by
    show 0 ≤ Go.bits .and .u8 x y ∧ Go.bits .and .u8 x y < 256
    rw [u8_and x y hx.1 hx.2 hy.1 hy.2]
    have := Nat.and_lt_two_pow (n := 8) x.toNat (y := y.toNat) (by omega)
    omega
  bit x y hx hy t ht := by
    show (Go.bits .and .u8 x y).toNat.testBit t = _
    rw [u8_and x y hx.1 hx.2 hy.1 hy.2, Int.toNat_natCast, Nat.testBit_and]
theorem bw_or : Bitwise (fun x y => Go.bits .or .u8 x y) (fun a b => a || b) where
  lt x y hx hy := by
    show 0 ≤ Go.bits .or .u8 x y ∧ Go.bits .or .u8 x y < 256
    rw [u8_or x y hx.1 hx.2 hy.1 hy.2]
    have := Nat.or_lt_two_pow (n := 8) (x := x.toNat) (y := y.toNat) (by omega) (by omega)
    omega
  bit x y hx hy t ht := by
    show (Go.bits .or .u8 x y).toNat.testBit t = _
    rw [u8_or x y hx.1 hx.2 hy.1 hy.2, Int.toNat_natCast, Nat.testBit_or]
theorem sub_bit (y t : Nat) (hy : y < 256) (ht : t < 8) : (255 - y).testBit t = !y.testBit t := by
  have h := Nat.testBit_two_pow_sub_succ (n := 8) (x := y) hy t
  rw [show 2 ^ 8 - (y + 1) = 255 - y by omega] at h
  rw [h]
  simp [ht]
theorem bw_sub : Bitwise (fun x y => Go.bits .andNot .u8 x y) (fun a b => a && !b) where
  lt x y hx hy := by
    show 0 ≤ Go.bits .andNot .u8 x y ∧ Go.bits .andNot .u8 x y < 256
    rw [u8_andNot x y hx.1 hx.2 hy.1 hy.2]
    have := Nat.and_lt_two_pow (n := 8) x.toNat (y := 255 - y.toNat) (by omega)
    omega
  bit x y hx hy t ht := by
    show (Go.bits .andNot .u8 x y).toNat.testBit t = _
    rw [u8_andNot x y hx.1 hx.2 hy.1 hy.2, Int.toNat_natCast, Nat.testBit_and, sub_bit _ _ (by omega) ht]
theorem zip_bytes {op g} (h : Bitwise op g) {a b : List Int} (ha : Bytes a) (hb : Bytes b) : Bytes (List.zipWith op a b) := by
  intro x hx
  obtain ⟨i, hi, rfl⟩ := List.getElem_of_mem hx
  rw [List.getElem_zipWith]
  rw [List.length_zipWith] at hi
  exact h.lt _ _ (ha _ (List.getElem_mem _)) (hb _ (List.getElem_mem _))
theorem zip_bit {op g} (h : Bitwise op g) {a b : List Int} (ha : Bytes a) (hb : Bytes b) (hl : a.length = b.length) (i : Nat) (hi : i < 8 * a.length) : bitN (List.zipWith op a b) i = g (bitN a i) (bitN b i) := by
  have h1 : i / 8 < a.length := by omega
  have h2 : i / 8 < b.length := by omega
  unfold bitN
  rw [List.getD_eq_getElem?_getD, List.getD_eq_getElem?_getD, List.getD_eq_getElem?_getD, List.getElem?_eq_getElem h1, List.getElem?_eq_getElem h2, List.getElem?_eq_getElem (by rw [List.length_zipWith]; omega), List.getElem_zipWith]
  exact h.bit _ _ (ha _ (List.getElem_mem _)) (hb _ (List.getElem_mem _)) _ (by omega)
/-- What stands in the row that the document makes, bit by bit, ahead of bit i. -/
structure Made (g : Bool → Bool → Bool) (a b o : List Int) (i : Nat) : Prop where
  len : o.length = a.length
  bytes : Bytes o
  bit : ∀ t, t < 8 * a.length → bitN o t = (decide (t < i) && g (bitN a t) (bitN b t))
theorem made_zero (g : Bool → Bool → Bool) (a b : List Int) : Made g a b (List.replicate a.length 0) 0 := by
  refine ⟨by simp, fun x hx => by have := (List.mem_replicate.1 hx).2; omega, fun t ht => ?_⟩
  unfold bitN
  rw [List.getD_eq_getElem?_getD, List.getElem?_replicate, if_pos (by omega)]
  simp
theorem made_step {g : Bool → Bool → Bool} {a b o : List Int} {i : Nat} (h : Made g a b o i) (hi : i < 8 * a.length) : Made g a b (if g (bitN a i) (bitN b i) = true then putN o i true else o) (i + 1) := by
  by_cases hc : g (bitN a i) (bitN b i) = true
  · rw [if_pos hc]
    refine ⟨by rw [putN_length, h.len], putN_bytes h.bytes _ _, fun t ht => ?_⟩
    rw [putN_bit, h.len, h.bit t ht]
    by_cases e : t = i
    · subst e
      rw [if_pos ⟨rfl, by omega⟩, hc, decide_eq_true (by omega)]
      rfl
    · rw [if_neg (fun h2 => e h2.1)]
      congr 1
      exact decide_eq_decide.2 (by omega)
  · rw [if_neg hc]
    refine ⟨h.len, h.bytes, fun t ht => ?_⟩
    rw [h.bit t ht]
    by_cases e : t = i
    · subst e
      rw [Bool.eq_false_iff.2 hc, Bool.and_false, Bool.and_false]
    · congr 1
      exact decide_eq_decide.2 (by omega)
theorem made_end {op g} (hw : Bitwise op g) {a b o : List Int} (h : Made g a b o (8 * a.length)) (ha : Bytes a) (hb : Bytes b) (hl : a.length = b.length) : o = List.zipWith op a b := by
  refine ext_bits h.bytes (zip_bytes hw ha hb) (by rw [h.len, List.length_zipWith]; omega) (fun i hi => ?_)
  rw [h.len] at hi
  rw [h.bit i hi, zip_bit hw ha hb hl i hi, decide_eq_true hi]
  rfl
theorem rput2_f (o : List Int) (i : Nat) (b : Bool) (hb : Bytes o) (hl : o.length < 140737488355328) (hi : i < 8 * o.length) : atticref02_put.f o i b = some (if b = true then putN o i true else o) := by
  unfold atticref02_put.f
  cases b
  · rfl
  · have h : i / 8 < o.length := by omega
    have hr := rd_byte hb h
    rw [if_pos rfl, if_pos rfl, tdiv8, tmod8, w64id (by omega) (by omega), u64w _ (by omega) (by omega), if_pos (by omega), if_pos (by omega), if_pos (by omega), or_bit _ _ hr.1 hr.2 (by omega), Int.toNat_natCast]
    unfold putN
    rw [if_pos h]
theorem rg (l : List Int) (i : Nat) (hb : Bytes l) (hl : l.length < 140737488355328) (hi : i < 9223372036854775807) : atticref02_Get.f l i = some (bitN l i) := by
  rw [rget_f l i hb hl (by omega), decide_eq_true (by omega), Int.toNat_natCast, Bool.true_and]
theorem m8 {n : Nat} (h : n < 140737488355328) : wrap64 (8 * (n : Int)) = ((8 * n : Nat) : Int) := by rw [w64id (by omega) (by omega)]; omega
theorem succ64 {n : Nat} (h : n < 9223372036854775807) : wrap64 ((n : Int) + 1) = ((n + 1 : Nat) : Int) := by rw [w64id (by omega) (by omega)]; omega
theorem and_l0 (a b : List Int) (ha : Bytes a) (hb : Bytes b) (hl : a.length = b.length) (hn : a.length < 140737488355328) (d : Nat) : ∀ (k i : Nat) (o : List Int), Made (fun a b => a && b) a b o i → i + d = 8 * a.length → d < k → ∃ o', atticref02_And.l0 k a b o i = some (o', 0) ∧ Made (fun a b => a && b) a b o' (8 * a.length) := by
  induction d with
  | zero =>
    intro k i o h hi hk
    obtain ⟨k, rfl⟩ : ∃ m, k = m + 1 := ⟨k - 1, by omega⟩
    rw [atticref02_And.l0, h.len, m8 hn, if_neg (by omega)]
    obtain rfl : i = 8 * a.length := by omega
    exact ⟨o, rfl, h⟩
  | succ d ih =>
    intro k i o h hi hk
    obtain ⟨k, rfl⟩ : ∃ m, k = m + 1 := ⟨k - 1, by omega⟩
    have hs := made_step h (show i < 8 * a.length by omega)
    rw [atticref02_And.l0, h.len, m8 hn, if_pos (by omega), rg a i ha hn (by omega), Option.bind_some, succ64 (by omega)]
    cases e : bitN a i
    · rw [if_neg (by decide), rput2_f o i false h.bytes (by rw [h.len]; exact hn) (by rw [h.len]; omega), Option.bind_some]
      rw [e] at hs
      exact ih k (i + 1) _ hs (by omega) (by omega)
    · rw [if_pos rfl, rg b i hb (by omega) (by omega), Option.bind_some, rput2_f o i _ h.bytes (by rw [h.len]; exact hn) (by rw [h.len]; omega), Option.bind_some]
      rw [e] at hs
      exact ih k (i + 1) _ hs (by omega) (by omega)
theorem or_l0 (a b : List Int) (ha : Bytes a) (hb : Bytes b) (hl : a.length = b.length) (hn : a.length < 140737488355328) (d : Nat) : ∀ (k i : Nat) (o : List Int), Made (fun a b => a || b) a b o i → i + d = 8 * a.length → d < k → ∃ o', atticref02_Or.l0 k a b o i = some (o', 0) ∧ Made (fun a b => a || b) a b o' (8 * a.length) := by
  induction d with
  | zero =>
    intro k i o h hi hk
    obtain ⟨k, rfl⟩ : ∃ m, k = m + 1 := ⟨k - 1, by omega⟩
    rw [atticref02_Or.l0, h.len, m8 hn, if_neg (by omega)]
    obtain rfl : i = 8 * a.length := by omega
    exact ⟨o, rfl, h⟩
  | succ d ih =>
    intro k i o h hi hk
    obtain ⟨k, rfl⟩ : ∃ m, k = m + 1 := ⟨k - 1, by omega⟩
    have hs := made_step h (show i < 8 * a.length by omega)
    rw [atticref02_Or.l0, h.len, m8 hn, if_pos (by omega), rg a i ha hn (by omega), Option.bind_some, succ64 (by omega)]
    cases e : bitN a i
    · rw [if_neg (by decide), rg b i hb (by omega) (by omega), Option.bind_some, rput2_f o i _ h.bytes (by rw [h.len]; exact hn) (by rw [h.len]; omega), Option.bind_some]
      rw [e] at hs
      exact ih k (i + 1) _ hs (by omega) (by omega)
    · rw [if_pos rfl, rput2_f o i true h.bytes (by rw [h.len]; exact hn) (by rw [h.len]; omega), Option.bind_some]
      rw [e] at hs
      exact ih k (i + 1) _ hs (by omega) (by omega)
theorem sub_l0 (a b : List Int) (ha : Bytes a) (hb : Bytes b) (hl : a.length = b.length) (hn : a.length < 140737488355328) (d : Nat) : ∀ (k i : Nat) (o : List Int), Made (fun a b => a && !b) a b o i → i + d = 8 * a.length → d < k → ∃ o', atticref02_Sub.l0 k a b o i = some (o', 0) ∧ Made (fun a b => a && !b) a b o' (8 * a.length) := by
  induction d with
  | zero =>
    intro k i o h hi hk
    obtain ⟨k, rfl⟩ : ∃ m, k = m + 1 := ⟨k - 1, by omega⟩
    rw [atticref02_Sub.l0, h.len, m8 hn, if_neg (by omega)]
    obtain rfl : i = 8 * a.length := by omega
    exact ⟨o, rfl, h⟩
  | succ d ih =>
    intro k i o h hi hk
    obtain ⟨k, rfl⟩ : ∃ m, k = m + 1 := ⟨k - 1, by omega⟩
    have hs := made_step h (show i < 8 * a.length by omega)
    rw [atticref02_Sub.l0, h.len, m8 hn, if_pos (by omega), rg a i ha hn (by omega), Option.bind_some, succ64 (by omega)]
    cases e : bitN a i
    · rw [if_neg (by decide), rput2_f o i false h.bytes (by rw [h.len]; exact hn) (by rw [h.len]; omega), Option.bind_some]
      rw [e] at hs
      exact ih k (i + 1) _ hs (by omega) (by omega)
    · rw [if_pos rfl, rg b i hb (by omega) (by omega), Option.bind_some, rput2_f o i _ h.bytes (by rw [h.len]; exact hn) (by rw [h.len]; omega), Option.bind_some]
      rw [e] at hs
      exact ih k (i + 1) _ hs (by omega) (by omega)
/-- What And, Or and Sub answer. -/
def setA (op : Int → Int → Int) (a b : List Int) : List Int × Int := if a.length = b.length then (List.zipWith op a b, 0) else ([], 20)
theorem and_w (a b : List Int) (hn : a.length < 140737488355328) : bits_And.f a b = some (setA (fun x y => Go.bits .and .u8 x y) a b) := by
  unfold bits_And.f setA
  rw [if_pos (by omega)]
  split <;> rfl
theorem or_w (a b : List Int) (hn : a.length < 140737488355328) : bits_Or.f a b = some (setA (fun x y => Go.bits .or .u8 x y) a b) := by
  unfold bits_Or.f setA
  rw [if_pos (by omega)]
  split <;> rfl
theorem sub_w (a b : List Int) (hn : a.length < 140737488355328) : bits_Sub.f a b = some (setA (fun x y => Go.bits .andNot .u8 x y) a b) := by
  unfold bits_Sub.f setA
  rw [if_pos (by omega)]
  split <;> rfl
theorem and_r (k : Nat) (a b : List Int) (ha : Bytes a) (hb : Bytes b) (hn : a.length < 140737488355328) (hk : 8 * a.length < k) : atticref02_And.f k a b = some (setA (fun x y => Go.bits .and .u8 x y) a b) := by
  unfold atticref02_And.f setA
  by_cases hl : a.length = b.length
  · obtain ⟨o, h1, h2⟩ := and_l0 a b ha hb hl hn (8 * a.length) k 0 _ (made_zero _ a b) (by omega) hk
    rw [if_pos hl, if_pos (by omega), if_pos (by omega), if_pos (by omega), Int.toNat_natCast, ← made_end bw_and h2 ha hb hl]
    exact h1
  · rw [if_neg hl, if_neg (by omega)]
theorem or_r (k : Nat) (a b : List Int) (ha : Bytes a) (hb : Bytes b) (hn : a.length < 140737488355328) (hk : 8 * a.length < k) : atticref02_Or.f k a b = some (setA (fun x y => Go.bits .or .u8 x y) a b) := by
  unfold atticref02_Or.f setA
  by_cases hl : a.length = b.length
  · obtain ⟨o, h1, h2⟩ := or_l0 a b ha hb hl hn (8 * a.length) k 0 _ (made_zero _ a b) (by omega) hk
    rw [if_pos hl, if_pos (by omega), if_pos (by omega), if_pos (by omega), Int.toNat_natCast, ← made_end bw_or h2 ha hb hl]
    exact h1
  · rw [if_neg hl, if_neg (by omega)]
theorem sub_r (k : Nat) (a b : List Int) (ha : Bytes a) (hb : Bytes b) (hn : a.length < 140737488355328) (hk : 8 * a.length < k) : atticref02_Sub.f k a b = some (setA (fun x y => Go.bits .andNot .u8 x y) a b) := by
  unfold atticref02_Sub.f setA
  by_cases hl : a.length = b.length
  · obtain ⟨o, h1, h2⟩ := sub_l0 a b ha hb hl hn (8 * a.length) k 0 _ (made_zero _ a b) (by omega) hk
    rw [if_pos hl, if_pos (by omega), if_pos (by omega), if_pos (by omega), Int.toNat_natCast, ← made_end bw_sub h2 ha hb hl]
    exact h1
  · rw [if_neg hl, if_neg (by omega)]
/-! ### A row within another one -/
theorem within_l0 (a b : List Int) (ha : Bytes a) (hb : Bytes b) (hn : a.length < 140737488355328) (hn2 : b.length < 140737488355328) (d : Nat) : ∀ (k j : Nat), j + d = a.length → d < k → ∃ r, bits_Within.l0 k b a a.length j = some r ∧ (r = true ↔ ∀ i, 8 * j ≤ i → i < 8 * a.length → bitN a i = true → bitN b i = true) := by
  induction d with
  | zero =>
    intro k j hj hk
    obtain ⟨k, rfl⟩ : ∃ m, k = m + 1 := ⟨k - 1, by omega⟩
    rw [bits_Within.l0, if_neg (by omega)]
    exact ⟨true, rfl, by simp; intro i h1 h2; omega⟩
  | succ d ih =>
    intro k j hj hk
    obtain ⟨k, rfl⟩ : ∃ m, k = m + 1 := ⟨k - 1, by omega⟩
    have hja : j < a.length := by omega
    have ra := rd_byte ha hja
    obtain ⟨r, h1, h2⟩ := ih k (j + 1) (by omega) (by omega)
    rw [bits_Within.l0, if_pos (by omega), if_pos (by omega), if_pos (by omega), succ64 (by omega)]
    obtain ⟨y, hy, hyb, hyt⟩ : ∃ y : Int, (0 ≤ y ∧ y < 256) ∧ (∀ (u v : Option Bool), (if (j : Int) < (b.length : Int) then (if (Go.bits .andNot .u8 (rd a j) (rd b j)) = 0 then u else v) else (if (Go.bits .andNot .u8 (rd a j) 0) = 0 then u else v)) = if Go.bits .andNot .u8 (rd a j) y = 0 then u else v) ∧ ∀ t, t < 8 → y.toNat.testBit t = bitN b (8 * j + t) := by
      by_cases hjb : j < b.length
      · refine ⟨rd b j, rd_byte hb hjb, fun u v => by rw [if_pos (by omega)], fun t ht => ?_⟩
        rw [bitN_rd (by omega), show (8 * j + t) / 8 = j by omega, show (8 * j + t) % 8 = t by omega]
      · refine ⟨0, by decide, fun u v => by rw [if_neg (by omega)], fun t ht => ?_⟩
        rw [bitN_out (by omega)]
        simp
    rw [hyb]
    have hz := bw_sub.bit (rd a j) y ra hy
    have hl := bw_sub.lt (rd a j) y ra hy
    change ∀ t, t < 8 → (Go.bits .andNot .u8 (rd a j) y).toNat.testBit t = ((rd a j).toNat.testBit t && !y.toNat.testBit t) at hz
    change 0 ≤ Go.bits .andNot .u8 (rd a j) y ∧ Go.bits .andNot .u8 (rd a j) y < 256 at hl
    have hat : ∀ t, t < 8 → (rd a j).toNat.testBit t = bitN a (8 * j + t) := fun t ht => by rw [bitN_rd (by omega), show (8 * j + t) / 8 = j by omega, show (8 * j + t) % 8 = t by omega]
    by_cases h0 : Go.bits .andNot .u8 (rd a j) y = 0
    · rw [if_pos h0]
      refine ⟨r, h1, h2.trans ⟨fun h i hi1 hi2 hi3 => ?_, fun h i hi1 hi2 hi3 => h i (by omega) hi2 hi3⟩⟩
      by_cases hi : 8 * (j + 1) ≤ i
      · exact h i hi hi2 hi3
      · have hz1 := hz (i - 8 * j) (by omega)
        rw [h0, hat _ (by omega), hyt _ (by omega), show 8 * j + (i - 8 * j) = i by omega, hi3] at hz1
        simpa using hz1
    · rw [if_neg h0]
      obtain ⟨t, ht⟩ : ∃ t, (Go.bits .andNot .u8 (rd a j) y).toNat.testBit t = true := by
        by_cases hx : ∃ t, (Go.bits .andNot .u8 (rd a j) y).toNat.testBit t = true
        · exact hx
        · exfalso
          have : (Go.bits .andNot .u8 (rd a j) y).toNat = 0 := Nat.eq_of_testBit_eq (fun t => by
            rw [Nat.zero_testBit]
            exact Bool.eq_false_iff.2 (fun h => hx ⟨t, h⟩))
          omega
      have ht8 : t < 8 := by
        rcases Nat.lt_or_ge t 8 with h | h
        · exact h
        · rw [Nat.testBit_lt_two_pow (Nat.lt_of_lt_of_le (show (Go.bits .andNot .u8 (rd a j) y).toNat < 2 ^ 8 by omega) (Nat.pow_le_pow_right (by decide) h))] at ht
          cases ht
      rw [hz t ht8, hat t ht8, hyt t ht8, Bool.and_eq_true] at ht
      exact ⟨false, rfl, ⟨(fun h => by cases h), fun h => absurd (h (8 * j + t) (by omega) (by omega) ht.1) (by simpa using ht.2)⟩⟩
theorem rwithin_l0 (a b : List Int) (ha : Bytes a) (hb : Bytes b) (hn : a.length < 140737488355328) (hn2 : b.length < 140737488355328) (d : Nat) : ∀ (k j : Nat), j + d = 8 * a.length → d < k → ∃ r, atticref02_Within.l0 k a b j = some r ∧ (r = true ↔ ∀ i, j ≤ i → i < 8 * a.length → bitN a i = true → bitN b i = true) := by
  induction d with
  | zero =>
    intro k j hj hk
    obtain ⟨k, rfl⟩ : ∃ m, k = m + 1 := ⟨k - 1, by omega⟩
    rw [atticref02_Within.l0, m8 hn, if_neg (by omega)]
    exact ⟨true, rfl, by simp; intro i h1 h2; omega⟩
  | succ d ih =>
    intro k j hj hk
    obtain ⟨k, rfl⟩ : ∃ m, k = m + 1 := ⟨k - 1, by omega⟩
    obtain ⟨r, h1, h2⟩ := ih k (j + 1) (by omega) (by omega)
    rw [atticref02_Within.l0, m8 hn, if_pos (by omega), rg a j ha hn (by omega), Option.bind_some, rg b j hb hn2 (by omega), succ64 (by omega)]
    by_cases hc : bitN a j = true ∧ bitN b j = false
    · rw [if_pos hc.1, Option.bind_some, if_neg (by rw [hc.2]; decide)]
      exact ⟨false, rfl, by simp; exact ⟨j, Nat.le_refl _, by omega, hc.1, hc.2⟩⟩
    · have hh : (r = true ↔ ∀ i, j ≤ i → i < 8 * a.length → bitN a i = true → bitN b i = true) := h2.trans ⟨fun h i hi1 hi2 hi3 => by
        by_cases e : i = j
        · subst e
          cases hb2 : bitN b i
          · exact absurd ⟨hi3, hb2⟩ hc
          · rfl
        · exact h i (by omega) hi2 hi3, fun h i hi1 hi2 hi3 => h i (by omega) hi2 hi3⟩
      by_cases ha2 : bitN a j = true
      · rw [if_pos ha2, Option.bind_some, if_pos (by cases hb2 : bitN b j; · exact absurd ⟨ha2, hb2⟩ hc
                                                     · rfl)]
        exact ⟨r, h1, hh⟩
      · rw [if_neg ha2]
        exact ⟨r, h1, hh⟩
theorem within_both (k : Nat) (a b : List Int) (ha : Bytes a) (hb : Bytes b) (hn : a.length < 140737488355328) (hn2 : b.length < 140737488355328) (hk : 8 * a.length < k) : ∃ r, bits_Within.f k a b = some r ∧ atticref02_Within.f k a b = some r ∧ (r = true ↔ ∀ i, i < 8 * a.length → bitN a i = true → bitN b i = true) := by
  obtain ⟨r, h1, h2⟩ := within_l0 a b ha hb hn hn2 a.length k 0 (by omega) (by omega)
  obtain ⟨q, h3, h4⟩ := rwithin_l0 a b ha hb hn hn2 (8 * a.length) k 0 (by omega) (by omega)
  have e : r = q := by
    rw [Bool.eq_iff_iff, h2, h4]
  subst e
  exact ⟨r, h1, h3, h4.trans ⟨fun h i hi => h i (Nat.zero_le _) hi, fun h i _ hi => h i hi⟩⟩
end Go.Proofs.Ytifeimbamibkeaa.Pure
