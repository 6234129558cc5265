/- A row is what its runs' spans, put together, are; for all rows. -/
import Derived.Test.YtifeimbamibkeaaCover
import Derived.Test.YtifeimbamibkeaaMakes
namespace Go.Proofs.Ytifeimbamibkeaa.Pure
open Go.RowKit Go.Proofs.Ytifeimbamibkeaa.PAll Go.Proofs.YtifeimbamibkeaaW.PrintWords Go.Proofs.YtifeimbamibkeaaW.PrintLast Go.Proofs.YtifeimbamibkeaaW.PrintMore
set_option linter.unusedVariables false

structure RInv (l : List Int) (m k : Nat) (out : List Int) (last : Int) : Prop where
  len : out.length = l.length
  by_ : Bytes out
  bit : ∀ t, t < 8 * l.length → (bitN out t = true ↔ ∃ x ∈ (runR l m).take k, InRun t x)
  last : ∀ x ∈ (runR l m).drop k, last < (x.1 : Int)
theorem rinv_start (l : List Int) (m : Nat) : RInv l m 0 (List.replicate l.length 0) (-1) where
  len := List.length_replicate
  by_ := by
    intro x hx
    rw [List.mem_replicate] at hx
    omega
  bit := by
    intro t _
    rw [zeros_bit]
    simp
  last := by
    intro x _
    omega
theorem rinv_step {l : List Int} {m k : Nat} {out : List Int} {last : Int} (h : RInv l m k out last) (hm : m ≤ 8 * l.length) (x : Nat × Nat) (hx : (runR l m)[k]? = some x) :
    RInv l m (k + 1) (List.zipWith (fun x y => Go.bits .or .u8 x y) out (spanR l.length x.1 x.2)) ((x.1 + x.2 : Nat) : Int) := by
  have hk : k < (runR l m).length := (List.getElem?_eq_some_iff.1 hx).1
  have he : (runR l m)[k] = x := (List.getElem?_eq_some_iff.1 hx).2
  have hle := runR_le l m x (List.mem_of_getElem? hx)
  have hsl := spanR_length l.length x.1 x.2
  refine ⟨by rw [List.length_zipWith, h.len, hsl, Nat.min_self], zip_bytes bw_or h.by_ (spanR_bytes _ _ _), ?_, ?_⟩
  · intro t ht
    rw [zip_bit bw_or h.by_ (spanR_bytes _ _ _) (by rw [h.len, hsl]) t (by rw [h.len]; exact ht), spanR_bit _ _ _ _ (by omega), Bool.or_eq_true, h.bit t ht, List.take_succ_eq_append_getElem hk, he]
    simp only [List.mem_append, List.mem_singleton, or_and_right, exists_or, exists_eq_left, InRun, decide_eq_true_eq]
  · intro y hy
    have hp := runR_apart l m
    rw [← List.take_append_drop k (runR l m), List.pairwise_append] at hp
    have h2 := hp.2.1
    rw [List.drop_eq_getElem_cons hk, List.pairwise_cons, he] at h2
    have := h2.1 y hy
    omega
theorem rinv_end {l : List Int} {m : Nat} {out : List Int} {last : Int} (h : RInv l m (runR l m).length out last) (hb : Bytes l) (hz : ∀ i, m ≤ i → bitN l i = false) : out = l := by
  refine ext_bits h.by_ hb h.len fun t ht => ?_
  rw [h.len] at ht
  have h1 := h.bit t ht
  rw [List.take_length] at h1
  have h2 := runR_cover l t m
  rw [Bool.eq_iff_iff, h1, h2]
  constructor
  · exact fun h => h.2
  · intro h
    refine ⟨?_, h⟩
    rcases Nat.lt_or_ge t m with h3 | h3
    · exact h3
    · rw [hz t h3] at h
      cases h
theorem runS_at (l : List Int) (m k : Nat) (h : k < (runR l m).length) : rd_T42 (runS l m) (k : Int) = S1 ((runR l m)[k]).1 ((runR l m)[k]).2 := by
  unfold rd_T42 runS
  rw [Int.toNat_natCast, List.getD_eq_getElem?_getD, List.getElem?_eq_getElem (by simpa using h)]
  simp [mkS, enc, S1]
end Go.Proofs.Ytifeimbamibkeaa.Pure
