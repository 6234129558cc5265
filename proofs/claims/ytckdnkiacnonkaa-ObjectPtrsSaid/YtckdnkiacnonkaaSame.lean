/- Bytes that are the same; plain. -/
import Derived.Test.YtckdnkiacnonkaaLive
import Derived.Test.YtckdnkiacnonkaaShapes
import Derived.Test.YtckdnkiacnonkaaNum
import Derived.Test.YtckdnkiacnonkaaGet
import Derived.Test.YtckdnkiacnonkaaHeads
import Derived.Test.YtckdnkiacnonkaaMakes
import Derived.Lib.Bytes
import Derived.Laws.BitsAllLaws
import Derived.Laws.Bits64
namespace Go.Proofs.Ytckdnkiacnonkaa.Pure
open Go.RowKit Go.Proofs.Ytckdnkiacnonkaa.PAll Go.Proofs.YtckdnkiacnonkaaW.PrintWords Go.Proofs.YtckdnkiacnonkaaW.PrintLast Go.Proofs.YtckdnkiacnonkaaW.PrintMore

theorem ofNat_inj8 {x y : Int} (hx : 0 ≤ x ∧ x < 256) (hy : 0 ≤ y ∧ y < 256) (h : UInt8.ofNat x.toNat = UInt8.ofNat y.toNat) : x = y := by
  have h2 := congrArg UInt8.toNat h
  simp only [UInt8.toNat_ofNat'] at h2
  omega
theorem map8_inj : ∀ (x y : List Int), Bytes x → Bytes y → (x.map fun n => UInt8.ofNat n.toNat) = (y.map fun n => UInt8.ofNat n.toNat) → x = y
  | [], [], _, _, _ => rfl
  | [], _ :: _, _, _, h => by simp at h
  | _ :: _, [], _, _, h => by simp at h
  | a :: x, b :: y, hx, hy, h => by
    simp only [List.map_cons, List.cons.injEq] at h
    rw [ofNat_inj8 (hx a (by simp)) (hy b (by simp)) h.1, map8_inj x y (fun z hz => hx z (by simp [hz])) (fun z hz => hy z (by simp [hz])) h.2]
theorem equal_f (x y : List Int) (hx : Bytes x) (hy : Bytes y) : bytes_Equal.f x y = some (decide (x = y)) := by
  unfold bytes_Equal.f
  congr 1
  by_cases h : x = y
  · subst h
    simp
  · rw [decide_eq_false h, Go.Lib.strOfNums_toList, Go.Lib.strOfNums_toList, beq_eq_false_iff_ne]
    intro e
    exact h (map8_inj x y hx hy e)
theorem same_l0 (x y : List Int) (hl : x.length = y.length) (hb : x.length ≤ 1000) (d : Nat) : ∀ (k i : Nat), i + d = x.length → x.take i = y.take i → d < k → atticref01_Same.l0 k x y (i : Int) = some (decide (x = y)) := by
  induction d with
  | zero =>
    intro k i hi ht hk
    obtain ⟨k, rfl⟩ : ∃ m, k = m + 1 := ⟨k - 1, by omega⟩
    rw [atticref01_Same.l0, if_neg (by omega)]
    rw [List.take_of_length_le (by omega), List.take_of_length_le (by omega)] at ht
    rw [decide_eq_true ht]
  | succ d ih =>
    intro k i hi ht hk
    obtain ⟨k, rfl⟩ : ∃ m, k = m + 1 := ⟨k - 1, by omega⟩
    have h1 : i < x.length := by omega
    have h2 : i < y.length := by omega
    have w : wrap64 ((i : Int) + 1) = ((i + 1 : Nat) : Int) := by clear ih ht; rw [w64id (by omega) (by omega)]; simp
    rw [atticref01_Same.l0, if_pos (by omega), if_pos (by omega), if_pos (by omega), w, rd_nat h1, rd_nat h2]
    by_cases he : x[i] = y[i]
    · rw [if_pos he]
      refine ih k (i + 1) (by omega) ?_ (by omega)
      rw [List.take_succ_eq_append_getElem h1, List.take_succ_eq_append_getElem h2, ht, he]
    · rw [if_neg he, decide_eq_false]
      intro e
      subst e
      exact he rfl
theorem same_f (k : Nat) (x y : List Int) (hl : x.length = y.length) (hb : x.length ≤ 1000) (hk : 1002 ≤ k) : atticref01_Same.f k x y = some (decide (x = y)) := by
  unfold atticref01_Same.f
  rw [if_pos (by omega)]
  exact same_l0 x y hl hb x.length k 0 (by omega) rfl (by omega)
theorem numL_bytes (n v : Nat) : Bytes (numL n v) := by
  intro x hx
  unfold numL at hx
  obtain ⟨i, _, rfl⟩ := List.mem_map.1 hx
  have : v / 256 ^ i % 256 < 256 := Nat.mod_lt _ (by decide)
  generalize v / 256 ^ i % 256 = z at this
  omega
theorem hdL_bytes (a b c g : Int) : Bytes (hdL a b c g) := by
  intro x hx
  unfold hdL at hx
  simp only [List.mem_append] at hx
  rcases hx with ((hx | hx) | hx) | hx
  · simp only [List.mem_cons, List.not_mem_nil, or_false] at hx
    rcases hx with rfl | rfl <;> omega
  · exact numL_bytes _ _ x hx
  · simp at hx
    omega
  · exact numL_bytes _ _ x hx
end Go.Proofs.Ytckdnkiacnonkaa.Pure
