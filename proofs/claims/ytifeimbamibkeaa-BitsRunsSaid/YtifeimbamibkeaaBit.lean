/- Plain lemmas on the bits of rows of bytes: a bit, a bit that is put, rows told apart by their bits; for all rows below 2^47 bytes. -/
import Derived.Test.YtifeimbamibkeaaPAllx2
import Derived.Test.YtifeimbamibkeaaPAllx6
import Derived.Test.YtifeimbamibkeaaPAllx7
import Derived.Lib.Bytes
import Derived.Laws.BitsAllLaws
import Derived.Laws.Bits64
namespace Go.Proofs.Ytifeimbamibkeaa.Pure
open Go.RowKit Go.Proofs.Ytifeimbamibkeaa.PAll Go.Proofs.YtifeimbamibkeaaW.PrintWords Go.Proofs.YtifeimbamibkeaaW.PrintLast Go.Proofs.YtifeimbamibkeaaW.PrintMore
set_option linter.unusedVariables false

/-- They are bytes. -/
def Bytes (l : List Int) : Prop := ∀ x ∈ l, 0 ≤ x ∧ x < 256
theorem bytes_wf {l : List Int} (h : ∀ x ∈ l, (Lit.int .u8 x).wf = true) : Bytes l := by
  intro x hx
  have := h x hx
  simp [Lit.wf, IntKind.min, IntKind.max, IntKind.signed, IntKind.bits] at this
  omega
theorem w64id {x : Int} (h0 : -9223372036854775808 ≤ x) (h : x ≤ 9223372036854775807) : wrap64 x = x := by unfold wrap64; omega
theorem u64w (n : Int) (h0 : 0 ≤ n) (h : n < 18446744073709551616) : IntKind.u64.wrap n = n := by rw [IntKind.wrap_u64]; omega
theorem rd_nat {l : List Int} {i : Nat} (h : i < l.length) : rd l i = l[i] := by
  unfold rd
  rw [List.getD_eq_getElem?_getD, show ((i : Int).toNat) = i from by omega, List.getElem?_eq_getElem h]; rfl
theorem rd_byte {l : List Int} (hb : Bytes l) {i : Nat} (hi : i < l.length) : 0 ≤ rd l i ∧ rd l i < 256 := by
  rw [rd_nat hi]
  exact hb _ (List.getElem_mem hi)
/-- A bit. -/
def bitN (l : List Int) (i : Nat) : Bool := (l.getD (i / 8) 0).toNat.testBit (i % 8)
theorem bitN_out {l : List Int} {i : Nat} (h : l.length ≤ i / 8) : bitN l i = false := by
  unfold bitN
  rw [List.getD_eq_getElem?_getD, List.getElem?_eq_none h]
  simp
theorem bitN_rd {l : List Int} {i : Nat} (h : i / 8 < l.length) : bitN l i = (rd l ((i / 8 : Nat) : Int)).toNat.testBit (i % 8) := by
  unfold bitN rd
  rw [show (((i / 8 : Nat) : Int).toNat) = i / 8 from by omega]
/-- Rows of one length with the same bits are the same. -/
theorem ext_bits {a b : List Int} (ha : Bytes a) (hb : Bytes b) (hl : a.length = b.length) (h : ∀ i, i < 8 * a.length → bitN a i = bitN b i) : a = b := by
  apply List.ext_getElem hl
  intro j hj hj2
  have a0 := ha _ (List.getElem_mem hj)
  have b0 := hb _ (List.getElem_mem hj2)
  have key : (a[j]).toNat = (b[j]).toNat := by
    apply Nat.eq_of_testBit_eq
    intro t
    by_cases ht : t < 8
    · have h1 := h (8 * j + t) (by omega)
      unfold bitN at h1
      rw [show (8 * j + t) / 8 = j by omega, show (8 * j + t) % 8 = t by omega, List.getD_eq_getElem?_getD, List.getD_eq_getElem?_getD, List.getElem?_eq_getElem hj, List.getElem?_eq_getElem hj2] at h1
      exact h1
    · rw [Nat.testBit_lt_two_pow, Nat.testBit_lt_two_pow]
      · exact Nat.lt_of_lt_of_le (show b[j].toNat < 2 ^ 8 by omega) (Nat.pow_le_pow_right (by decide) (by omega))
      · exact Nat.lt_of_lt_of_le (show a[j].toNat < 2 ^ 8 by omega) (Nat.pow_le_pow_right (by decide) (by omega))
  omega
theorem tdiv8 {i : Nat} : Int.tdiv (i : Int) 8 = ((i / 8 : Nat) : Int) := by rw [Int.tdiv_eq_ediv_of_nonneg (by omega)]; omega
theorem tmod8 {i : Nat} : Int.tmod (i : Int) 8 = ((i % 8 : Nat) : Int) := by rw [Int.tmod_eq_emod_of_nonneg (by omega)]; omega
theorem shr_bit (x : Int) (j : Nat) (h0 : 0 ≤ x) (hx : x < 256) (hj : j < 8) : (shr .u8 x (j : Int)) = ((x.toNat / 2 ^ j : Nat) : Int) := by
  unfold shr
  rw [Int.toNat_natCast, Nat.min_eq_left (show j ≤ IntKind.u8.bits by show j ≤ 8; omega)]
  obtain ⟨n, rfl⟩ := Int.eq_ofNat_of_zero_le h0
  simp
theorem and_one (n j : Nat) : (n / 2 ^ j) % 2 = if n.testBit j then 1 else 0 := by
  rw [Nat.testBit_eq_decide_div_mod_eq]
  rcases Nat.mod_two_eq_zero_or_one (n / 2 ^ j) with h | h <;> simp [h]
/-! ### A bit of a row -/
theorem there_f (l : List Int) (i : Int) (hl : l.length < 140737488355328) (hi : -9223372036854775808 ≤ i ∧ i ≤ 9223372036854775807) : bits_there.f l i = some (decide (0 ≤ i ∧ i.toNat / 8 < l.length)) := by
  unfold bits_there.f
  by_cases h : i ≥ 0
  · obtain ⟨n, rfl⟩ := Int.eq_ofNat_of_zero_le h
    rw [if_pos h, tdiv8, w64id (by omega) (by omega)]
    congr 1
    refine decide_eq_decide.2 ?_
    rw [Int.toNat_natCast]
    omega
  · rw [if_neg h, decide_eq_false (by omega)]
theorem get_f (l : List Int) (i : Int) (hb : Bytes l) (hl : l.length < 140737488355328) (hi : -9223372036854775808 ≤ i ∧ i ≤ 9223372036854775807) : bits_Get.f l i = some (decide (0 ≤ i) && bitN l i.toNat) := by
  unfold bits_Get.f
  rw [there_f l i hl hi, Option.bind_some]
  by_cases h : 0 ≤ i ∧ i.toNat / 8 < l.length
  · obtain ⟨n, rfl⟩ := Int.eq_ofNat_of_zero_le h.1
    rw [Int.toNat_natCast] at h
    have hr := rd_byte hb h.2
    rw [decide_eq_true (by rw [Int.toNat_natCast]; exact h), if_pos rfl, tdiv8, tmod8, w64id (by omega) (by omega), if_pos (by omega), if_pos (by omega), if_pos (by omega), shr_bit _ _ hr.1 hr.2 (by omega), show (1 : Int) = ((1 : Nat) : Int) from rfl, u8_and_nat _ _ (Nat.lt_of_le_of_lt (Nat.div_le_self _ _) (by omega)) (by decide), Nat.and_one_is_mod, and_one, Int.toNat_natCast, bitN_rd h.2, decide_eq_true h.1]
    congr 1
    generalize (rd l ((n / 8 : Nat) : Int)).toNat.testBit (n % 8) = b
    cases b <;> rfl
  · rw [decide_eq_false h, if_neg (by decide)]
    by_cases h0 : 0 ≤ i
    · rw [decide_eq_true h0, bitN_out (by omega)]
      rfl
    · rw [decide_eq_false h0]
      rfl
theorem rget_f (l : List Int) (i : Int) (hb : Bytes l) (hl : l.length < 140737488355328) (hi : -9223372036854775808 ≤ i ∧ i ≤ 9223372036854775807) : atticref02_Get.f l i = some (decide (0 ≤ i) && bitN l i.toNat) := by
  unfold atticref02_Get.f
  by_cases h0 : i ≥ 0
  · obtain ⟨n, rfl⟩ := Int.eq_ofNat_of_zero_le h0
    rw [if_pos h0, tdiv8, tmod8, w64id (by omega) (by omega), Int.toNat_natCast, decide_eq_true h0]
    by_cases h : n / 8 < l.length
    · have hr := rd_byte hb h
      rw [if_pos (by omega), if_pos (by omega), u64w _ (by omega) (by omega), if_pos (by omega), shr_bit _ _ hr.1 hr.2 (by omega), bitN_rd h]
      congr 1
      have e : ∀ q : Nat, Int.tmod (q : Int) 2 = ((q % 2 : Nat) : Int) := fun q => by rw [Int.tmod_eq_emod_of_nonneg (by omega)]; omega
      rw [e, and_one]
      generalize (rd l ((n / 8 : Nat) : Int)).toNat.testBit (n % 8) = b
      cases b <;> rfl
    · rw [if_neg (by omega), bitN_out (by omega)]
      rfl
  · rw [if_neg h0, decide_eq_false h0]
    rfl
/-! ### A bit that is put -/
theorem shl_bit (j : Nat) (hj : j < 8) : shl .u8 1 (j : Int) = ((2 ^ j : Nat) : Int) := by
  have : j = 0 ∨ j = 1 ∨ j = 2 ∨ j = 3 ∨ j = 4 ∨ j = 5 ∨ j = 6 ∨ j = 7 := by omega
  rcases this with rfl | rfl | rfl | rfl | rfl | rfl | rfl | rfl <;> decide
/-- A byte with a bit so. -/
def putB (x j : Nat) (b : Bool) : Nat := if b then x ||| 2 ^ j else x &&& (255 - 2 ^ j)
theorem putB_lt {x j : Nat} {b : Bool} (hx : x < 256) (hj : j < 8) : putB x j b < 256 := by
  have h2 : 2 ^ j < 256 := Nat.lt_of_lt_of_le (Nat.pow_lt_pow_right (by decide) hj) (by decide)
  unfold putB
  split
  · exact Nat.or_lt_two_pow (n := 8) hx h2
  · exact Nat.and_lt_two_pow (n := 8) _ (Nat.lt_of_le_of_lt (Nat.sub_le _ _) (by decide))
theorem not_bit (j t : Nat) (hj : j < 8) (ht : t < 8) : (255 - 2 ^ j).testBit t = !decide (j = t) := by
  have h1 : j = 0 ∨ j = 1 ∨ j = 2 ∨ j = 3 ∨ j = 4 ∨ j = 5 ∨ j = 6 ∨ j = 7 := by omega
  have h2 : t = 0 ∨ t = 1 ∨ t = 2 ∨ t = 3 ∨ t = 4 ∨ t = 5 ∨ t = 6 ∨ t = 7 := by omega
  rcases h1 with rfl | rfl | rfl | rfl | rfl | rfl | rfl | rfl <;> rcases h2 with rfl | rfl | rfl | rfl | rfl | rfl | rfl | rfl <;> decide
theorem putB_bit (x j t : Nat) (b : Bool) (hj : j < 8) (ht : t < 8) : (putB x j b).testBit t = if t = j then b else x.testBit t := by
  unfold putB
  cases b
  · rw [if_neg (by decide), Nat.testBit_and, not_bit j t hj ht]
    by_cases h : t = j
    · subst h; simp
    · rw [if_neg h, decide_eq_false (fun e => h e.symm)]; simp
  · rw [if_pos rfl, Nat.testBit_or, Nat.testBit_two_pow]
    by_cases h : t = j
    · subst h; simp
    · rw [if_neg h, decide_eq_false (fun e => h e.symm)]; simp
theorem or_bit (x : Int) (j : Nat) (h0 : 0 ≤ x) (hx : x < 256) (hj : j < 8) : Go.bits .or .u8 x (shl .u8 1 (j : Int)) = ((putB x.toNat j true : Nat) : Int) := by
  have h2 : 2 ^ j < 256 := Nat.lt_of_lt_of_le (Nat.pow_lt_pow_right (by decide) hj) (by decide)
  unfold putB
  rw [shl_bit j hj]
  generalize 2 ^ j = p at h2
  rw [u8_or _ _ h0 hx (by omega) (by omega)]
  rfl
theorem andNot_bit (x : Int) (j : Nat) (h0 : 0 ≤ x) (hx : x < 256) (hj : j < 8) : Go.bits .andNot .u8 x (shl .u8 1 (j : Int)) = ((putB x.toNat j false : Nat) : Int) := by
  have h2 : 2 ^ j < 256 := Nat.lt_of_lt_of_le (Nat.pow_lt_pow_right (by decide) hj) (by decide)
  unfold putB
  rw [shl_bit j hj]
  generalize 2 ^ j = p at h2
  rw [u8_andNot _ _ h0 hx (by omega) (by omega)]
  rfl
/-- A row with a bit so. -/
def putN (l : List Int) (i : Nat) (b : Bool) : List Int := if i / 8 < l.length then l.set (i / 8) ((putB (rd l ((i / 8 : Nat) : Int)).toNat (i % 8) b : Nat) : Int) else l
theorem putN_length (l : List Int) (i : Nat) (b : Bool) : (putN l i b).length = l.length := by unfold putN; split <;> simp
theorem bytes_set {l : List Int} (h : Bytes l) {i : Nat} {v : Int} (hv : 0 ≤ v ∧ v < 256) : Bytes (l.set i v) := by
  intro x hx
  rcases List.mem_or_eq_of_mem_set hx with h1 | rfl
  · exact h x h1
  · exact hv
theorem putN_bytes {l : List Int} (h : Bytes l) (i : Nat) (b : Bool) : Bytes (putN l i b) := by
  unfold putN
  split
  · rename_i hi
    have hr := rd_byte h hi
    have := putB_lt (x := (rd l ((i / 8 : Nat) : Int)).toNat) (j := i % 8) (b := b) (by omega) (by omega)
    exact bytes_set h (by omega)
  · exact h
theorem putN_bit (l : List Int) (i : Nat) (b : Bool) (t : Nat) : bitN (putN l i b) t = if t = i ∧ i / 8 < l.length then b else bitN l t := by
  unfold putN
  by_cases hi : i / 8 < l.length
  · rw [if_pos hi]
    unfold bitN
    rw [List.getD_eq_getElem?_getD, List.getElem?_set]
    by_cases ht : i / 8 = t / 8
    · rw [if_pos ht, if_pos (by omega), Option.getD_some, Int.toNat_natCast, putB_bit _ _ _ _ (by omega) (by omega)]
      by_cases h : t = i
      · subst h
        rw [if_pos rfl, if_pos ⟨rfl, hi⟩]
      · rw [if_neg (by omega), if_neg (fun h2 => h h2.1), ← ht]
        unfold rd
        rw [show (((i / 8 : Nat) : Int).toNat) = i / 8 from by omega]
    · rw [if_neg ht, if_neg (fun h2 => ht (by rw [h2.1]))]
      rw [List.getD_eq_getElem?_getD]
  · rw [if_neg hi, if_neg (fun h2 => hi h2.2)]
theorem clone_f (l : List Int) (hl : l.length < 140737488355328) : bytes_Clone.f l = some l := by unfold bytes_Clone.f; rw [if_pos hl]
/-- What Put answers, the program's and the document's. -/
def putA (l : List Int) (i : Int) (b : Bool) : List Int := if 0 ≤ i then putN l i.toNat b else l
theorem put_f (l : List Int) (i : Int) (b : Bool) (hb : Bytes l) (hl : l.length < 140737488355328) (hi : -9223372036854775808 ≤ i ∧ i ≤ 9223372036854775807) : bits_Put.f l i b = some (putA l i b) := by
  unfold bits_Put.f putA
  rw [clone_f l hl, Option.bind_some, there_f l i hl hi, Option.bind_some]
  by_cases h : 0 ≤ i ∧ i.toNat / 8 < l.length
  · obtain ⟨n, rfl⟩ := Int.eq_ofNat_of_zero_le h.1
    rw [Int.toNat_natCast] at h
    have hr := rd_byte hb h.2
    rw [decide_eq_true (by rw [Int.toNat_natCast]; exact h), if_pos rfl, tdiv8, tmod8, w64id (by omega) (by omega), if_pos h.1, Int.toNat_natCast n]
    unfold putN
    rw [if_pos h.2]
    cases b
    · rw [if_neg (by decide), if_pos (by omega), if_pos (by omega), if_pos (by omega), andNot_bit _ _ hr.1 hr.2 (by omega), Int.toNat_natCast]
    · rw [if_pos rfl, if_pos (by omega), if_pos (by omega), if_pos (by omega), or_bit _ _ hr.1 hr.2 (by omega), Int.toNat_natCast]
  · rw [decide_eq_false h, if_neg (by decide)]
    by_cases h0 : 0 ≤ i
    · rw [if_pos h0]
      unfold putN
      rw [if_neg (by omega)]
    · rw [if_neg h0]
theorem rd_set {l : List Int} {i : Nat} {v : Int} (h : i < l.length) : rd (l.set i v) (i : Int) = v := by
  unfold rd
  rw [List.getD_eq_getElem?_getD, show ((i : Int).toNat) = i from by omega, List.getElem?_set, if_pos rfl, if_pos h]
  rfl
theorem rput_f (k : Nat) (l : List Int) (i : Int) (b : Bool) (hb : Bytes l) (hl : l.length < 140737488355328) (hi : -9223372036854775808 ≤ i ∧ i ≤ 9223372036854775807) (hk : 1 ≤ k) : atticref02_Put.f k l i b = some (putA l i b) := by
  obtain ⟨k, rfl⟩ : ∃ m, k = m + 1 := ⟨k - 1, by omega⟩
  unfold atticref02_Put.f putA
  rw [if_pos (by rw [List.length_nil]; omega), Option.bind_some]
  by_cases h0 : i < 0
  · rw [if_pos h0, atticref02_Put.j0, if_pos rfl, if_neg (by omega)]
  · obtain ⟨n, rfl⟩ := Int.eq_ofNat_of_zero_le (show 0 ≤ i by omega)
    rw [if_neg h0, if_pos (show (0 : Int) ≤ (n : Int) by omega), atticref02_Put.j0, tdiv8, tmod8, w64id (by omega) (by omega), Int.toNat_natCast n]
    unfold putN
    by_cases h : n / 8 < l.length
    · have hr := rd_byte hb h
      have hp := putB_lt (x := (rd l ((n / 8 : Nat) : Int)).toNat) (j := n % 8) (b := false) (by omega) (by omega)
      rw [if_neg (by simp; omega), if_pos h, u64w _ (by omega) (by omega), if_pos (by omega), if_pos (by omega), if_pos (by omega), Option.bind_some, andNot_bit _ _ hr.1 hr.2 (by omega), Int.toNat_natCast]
      cases b
      · rw [if_neg (by decide)]
      · rw [if_pos rfl, rd_set h, or_bit _ _ (by omega) (by omega) (by omega), List.set_set, Int.toNat_natCast]
        congr 3
        apply Nat.eq_of_testBit_eq
        intro t
        by_cases ht : t < 8
        · rw [putB_bit _ _ _ _ (by omega) ht, putB_bit _ _ _ _ (by omega) ht, putB_bit _ _ _ _ (by omega) ht]
          by_cases e : t = n % 8
          · rw [if_pos e, if_pos e]
          · rw [if_neg e, if_neg e, if_neg e]
        · have q1 := putB_lt (x := putB (rd l ((n / 8 : Nat) : Int)).toNat (n % 8) false) (j := n % 8) (b := true) hp (by omega)
          have q2 := putB_lt (x := (rd l ((n / 8 : Nat) : Int)).toNat) (j := n % 8) (b := true) (by omega) (by omega)
          have h8 : 256 ≤ 2 ^ t := Nat.pow_le_pow_right (n := 2) (i := 8) (by decide) (by omega)
          rw [Nat.testBit_lt_two_pow (Nat.lt_of_lt_of_le q1 h8), Nat.testBit_lt_two_pow (Nat.lt_of_lt_of_le q2 h8)]
    · rw [if_pos (by simp; omega), if_neg h]
end Go.Proofs.Ytifeimbamibkeaa.Pure
