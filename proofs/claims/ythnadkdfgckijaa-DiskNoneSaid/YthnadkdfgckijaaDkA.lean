/- A disk, as plain data: its blocks, what is pending, and how picks let sectors reach the medium. -/
import Derived.Test.YthnadkdfgckijaaFr
namespace Go.Proofs.Ythnadkdfgckijaa.Pure
open Go.RowKit Go.Proofs.Ythnadkdfgckijaa.Mem Go.Proofs.YthnadkdfgckijaaW.PrintWords Go.Proofs.YthnadkdfgckijaaW.PrintLast Go.Proofs.YthnadkdfgckijaaW.PrintMore
set_option linter.unusedVariables false
set_option linter.unusedSimpArgs false

def Bytes (l : List Int) : Prop := ∀ x ∈ l, 0 ≤ x ∧ x < 256
/-- Has the pick this sector? -/
def bitB (pick : Int) (k : Nat) : Bool := Go.bits .and .u8 (pick / 2 ^ min k 8) 1 == 1
def sec (b : List Int) (k : Nat) : List Int := (b.drop (64 * k)).take 64
def mixN (b : List Int) (pick : Int) : Nat → List Int → List Int
  | 0, r => r
  | k + 1, r => if bitB pick k = true then over (mixN b pick k r) (64 * k) (sec b k) else mixN b pick k r
def mix (old b : List Int) (pick : Int) : List Int := mixN b pick 4 old
theorem sec_len {b : List Int} (h : b.length = 256) {k : Nat} (hk : k < 4) : (sec b k).length = 64 := by
  unfold sec
  rw [List.length_take, List.length_drop]
  omega
theorem mixN_len {b r : List Int} (hb : b.length = 256) (hr : r.length = 256) (pick : Int) : ∀ k, k ≤ 4 → (mixN b pick k r).length = 256
  | 0, _ => hr
  | k + 1, h => by
    have ih := mixN_len hb hr pick k (by omega)
    unfold mixN
    split
    · rw [over_length (by rw [sec_len hb (by omega), ih]; omega)]
      exact ih
    · exact ih
theorem mix_len {b r : List Int} (hb : b.length = 256) (hr : r.length = 256) (pick : Int) : (mix r b pick).length = 256 := mixN_len hb hr pick 4 (by omega)
theorem over_get {l x : List Int} {o : Nat} (h : o + x.length ≤ l.length) (j : Nat) : (over l o x)[j]? = if o ≤ j ∧ j < o + x.length then x[j - o]? else l[j]? := by
  unfold over
  by_cases h1 : j < o
  · rw [if_neg (by omega), List.getElem?_append_left (by rw [List.length_take]; omega), List.getElem?_take, if_pos h1]
  · rw [List.getElem?_append_right (by rw [List.length_take]; omega), List.length_take, Nat.min_eq_left (by omega)]
    by_cases h2 : j < o + x.length
    · rw [if_pos ⟨by omega, h2⟩, List.getElem?_append_left (by omega)]
    · rw [if_neg (by omega), List.getElem?_append_right (by omega), List.getElem?_drop]
      congr 1
      omega
theorem sec_get (b : List Int) (k j : Nat) (h1 : 64 * k ≤ j) (h2 : j < 64 * k + 64) : (sec b k)[j - 64 * k]? = b[j]? := by
  unfold sec
  rw [List.getElem?_take, if_pos (by omega), List.getElem?_drop]
  congr 1
  omega
theorem mixN_get {b r : List Int} (hb : b.length = 256) (hr : r.length = 256) (pick : Int) (j : Nat) (hj : j < 256) : ∀ k, k ≤ 4 → (mixN b pick k r)[j]? = if j / 64 < k ∧ bitB pick (j / 64) = true then b[j]? else r[j]?
  | 0, _ => by rw [if_neg (by omega)]; rfl
  | k + 1, h => by
    have ih := mixN_get hb hr pick j hj k (by omega)
    unfold mixN
    by_cases hk : bitB pick k = true
    · rw [if_pos hk, over_get (by rw [sec_len hb (by omega), mixN_len hb hr pick k (by omega)]; omega), sec_len hb (by omega)]
      by_cases h1 : 64 * k ≤ j ∧ j < 64 * k + 64
      · have e : j / 64 = k := by omega
        rw [if_pos h1, sec_get b k j h1.1 h1.2, if_pos ⟨by omega, by rw [e]; exact hk⟩]
      · rw [if_neg h1, ih]
        by_cases h2 : j / 64 < k
        · by_cases h3 : bitB pick (j / 64) = true
          · rw [if_pos ⟨h2, h3⟩, if_pos ⟨by omega, h3⟩]
          · rw [if_neg (fun q => h3 q.2), if_neg (fun q => h3 q.2)]
        · rw [if_neg (by omega), if_neg (by omega)]
    · rw [if_neg hk, ih]
      by_cases h2 : j / 64 < k
      · by_cases h3 : bitB pick (j / 64) = true
        · rw [if_pos ⟨h2, h3⟩, if_pos ⟨by omega, h3⟩]
        · rw [if_neg (fun q => h3 q.2), if_neg (fun q => h3 q.2)]
      · rw [if_neg (by omega), if_neg]
        rintro ⟨q1, q2⟩
        have e : j / 64 = k := by omega
        exact hk (e ▸ q2)
theorem mix_get {b r : List Int} (hb : b.length = 256) (hr : r.length = 256) (pick : Int) (j : Nat) (hj : j < 256) : (mix r b pick)[j]? = if bitB pick (j / 64) = true then b[j]? else r[j]? := by
  unfold mix
  rw [mixN_get hb hr pick j hj 4 (by omega)]
  by_cases h : bitB pick (j / 64) = true
  · rw [if_pos ⟨by omega, h⟩, if_pos h]
  · rw [if_neg (fun q => h q.2), if_neg h]
theorem bit15 {k : Nat} (h : k < 4) : bitB 15 k = true := by
  have hc : k = 0 ∨ k = 1 ∨ k = 2 ∨ k = 3 := by omega
  rcases hc with rfl | rfl | rfl | rfl <;> decide +kernel
theorem mix_15 {b r : List Int} (hb : b.length = 256) (hr : r.length = 256) : mix r b 15 = b := by
  apply List.ext_getElem?
  intro j
  by_cases hj : j < 256
  · rw [mix_get hb hr 15 j hj, if_pos (bit15 (by omega))]
  · rw [List.getElem?_eq_none (by rw [mix_len hb hr]; omega), List.getElem?_eq_none (by omega)]
theorem mix_bytes {b r : List Int} (hb : b.length = 256) (hr : r.length = 256) (pick : Int) (h1 : Bytes b) (h2 : Bytes r) : Bytes (mix r b pick) := by
  intro x hx
  obtain ⟨j, hj, e⟩ := List.mem_iff_getElem.1 hx
  rw [mix_len hb hr] at hj
  have h := mix_get hb hr pick j hj
  rw [List.getElem?_eq_getElem (by rw [mix_len hb hr]; exact hj), e] at h
  split at h
  · rw [List.getElem?_eq_getElem (by omega)] at h
    injection h with h
    rw [h]
    exact h1 _ (List.getElem_mem _)
  · rw [List.getElem?_eq_getElem (by omega)] at h
    injection h with h
    rw [h]
    exact h2 _ (List.getElem_mem _)
/-- A write reaches the medium, as far as a pick has its sectors. -/
def reachB (B : List (List Int)) (x : Int × List Int) (pick : Int) : List (List Int) := B.set x.1.toNat (mix (B.getD x.1.toNat []) x.2 pick)
def fallB (B : List (List Int)) (L : List ((Int × List Int) × Int)) : List (List Int) := L.foldl (fun B x => reachB B x.1 x.2) B
def flushB (B : List (List Int)) (P : List (Int × List Int)) : List (List Int) := P.foldl (fun B x => reachB B x 15) B
theorem reachB_len (B : List (List Int)) (x : Int × List Int) (pick : Int) : (reachB B x pick).length = B.length := by simp [reachB]
theorem flushB_next (B : List (List Int)) (P : List (Int × List Int)) (k : Nat) (hk : k < P.length) : flushB B (P.take (k + 1)) = reachB (flushB B (P.take k)) P[k] 15 := by
  unfold flushB
  rw [List.take_add_one, List.getElem?_eq_getElem hk, List.foldl_append]
  rfl
theorem fallB_next (B : List (List Int)) (P : List (Int × List Int)) (ps : List Int) (k : Nat) (hk : k < P.length) (hp : k < ps.length) : fallB B ((P.zip ps).take (k + 1)) = reachB (fallB B ((P.zip ps).take k)) P[k] ps[k] := by
  unfold fallB
  rw [List.take_add_one, List.getElem?_eq_getElem (by rw [List.length_zip]; omega), List.foldl_append, List.getElem_zip]
  rfl
theorem fallB_stop (B : List (List Int)) (P : List (Int × List Int)) (ps : List Int) (k : Nat) (hp : ¬ k < ps.length) : fallB B ((P.zip ps).take (k + 1)) = fallB B ((P.zip ps).take k) := by
  rw [List.take_of_length_le (by rw [List.length_zip]; omega), List.take_of_length_le (by rw [List.length_zip]; omega)]
/-- Blocks, each of 256 bytes. -/
def BlkOk (B : List (List Int)) : Prop := ∀ b ∈ B, b.length = 256 ∧ Bytes b
def PenOk (n : Nat) (P : List (Int × List Int)) : Prop := ∀ x ∈ P, 0 ≤ x.1 ∧ x.1 < (n : Int) ∧ x.2.length = 256 ∧ Bytes x.2
theorem getD_ok {B : List (List Int)} (h : BlkOk B) {i : Nat} (hi : i < B.length) : (B.getD i []).length = 256 ∧ Bytes (B.getD i []) := by
  rw [List.getD_eq_getElem?_getD, List.getElem?_eq_getElem hi]
  exact h _ (List.getElem_mem hi)
theorem reachB_ok {B : List (List Int)} (h : BlkOk B) {x : Int × List Int} (hx : 0 ≤ x.1 ∧ x.1 < (B.length : Int) ∧ x.2.length = 256 ∧ Bytes x.2) (pick : Int) : BlkOk (reachB B x pick) := by
  intro b hb
  unfold reachB at hb
  obtain ⟨q1, q2⟩ := getD_ok h (i := x.1.toNat) (by omega)
  rcases List.mem_or_eq_of_mem_set hb with h1 | h1
  · exact h b h1
  · rw [h1]
    exact ⟨mix_len hx.2.2.1 q1 _, mix_bytes hx.2.2.1 q1 _ hx.2.2.2 q2⟩
end Go.Proofs.Ythnadkdfgckijaa.Pure
