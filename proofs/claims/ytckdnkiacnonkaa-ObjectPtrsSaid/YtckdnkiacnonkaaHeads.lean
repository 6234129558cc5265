/- Plain lemmas on an object's head -/
import Derived.Test.YtckdnkiacnonkaaLive
import Derived.Test.YtckdnkiacnonkaaShapes
import Derived.Test.YtckdnkiacnonkaaGet
import Derived.Laws.BitsAllLaws
import Derived.Laws.Bits64
namespace Go.Proofs.Ytckdnkiacnonkaa.Pure
open Go.RowKit Go.Proofs.Ytckdnkiacnonkaa.PAll Go.Proofs.YtckdnkiacnonkaaW.PrintWords Go.Proofs.YtckdnkiacnonkaaW.PrintLast Go.Proofs.YtckdnkiacnonkaaW.PrintMore

def OF (a b c : Int) : Int × Int := if chk a b c = 0 then class_Of.ofN (sizeN a b c) else (0, chk a b c)
theorem OF_chk {a b c : Int} (h : (OF a b c).2 = 0) : chk a b c = 0 := by
  unfold OF at h
  split at h
  · assumption
  · exact h
def hdL (a b c g : Int) : List Int := [a % 256, b % 256] ++ numL 2 c.toNat ++ [0, 0, 0, 0] ++ numL 8 g.toNat
theorem u64_pos {x : Int} (h : 0 ≤ x ∧ x < 4611686018427387904) : IntKind.u64.wrap x = ((x.toNat : Nat) : Int) := by
  rw [u64w _ (by omega) (by omega)]
  omega
theorem len2 {l : List Int} (h : l.length = 2) : ∃ u v, l = [u, v] := by
  match l, h with
  | [u, v], _ => exact ⟨u, v, rfl⟩
theorem len8 {l : List Int} (h : l.length = 8) : ∃ a b c d e f g i, l = [a, b, c, d, e, f, g, i] := by
  match l, h with
  | [a, b, c, d, e, f, g, i], _ => exact ⟨a, b, c, d, e, f, g, i, rfl⟩
def HD (a b c g : Int) : List Int × Int := if (OF a b c).2 = 0 then (if 1 ≤ g ∧ g ≤ 1099511627776 then (hdL a b c g, 0) else ([], 1)) else ([], (OF a b c).2)
theorem hdj_w (k : Nat) (a b c g : Int) (hc : 0 ≤ c ∧ c ≤ 1008) (hg : 1 ≤ g ∧ g ≤ 1099511627776) (hk : 11 ≤ k) : object_Head.j0 k g false a b c = some (hdL a b c g, 0) := by
  obtain ⟨k, rfl⟩ : ∃ m, k = m + 1 := ⟨k - 1, by omega⟩
  rw [object_Head.j0, u64_pos (x := c) (by omega), u64_pos (x := g) (by omega), if_neg (by decide), if_pos (by decide)]
  have h2 := num_f k 2 c.toNat (by omega)
  have h8 := num_f k 8 g.toNat (by omega)
  rw [if_neg (by decide)] at h2 h8
  rw [h2, h8]
  unfold hdL
  obtain ⟨u, v, e2⟩ := len2 (numL_length 2 c.toNat)
  obtain ⟨q0, q1, q2, q3, q4, q5, q6, q7, e8⟩ := len8 (numL_length 8 g.toNat)
  rw [show (2 : Int).toNat = 2 from rfl, show (8 : Int).toNat = 8 from rfl, e2, e8]
  rfl
theorem hdj_r (k : Nat) (a b c g : Int) (hc : 0 ≤ c ∧ c ≤ 1008) (hg : 1 ≤ g ∧ g ≤ 1099511627776) (hk : 11 ≤ k) : atticref13_Head.j0 k g false a b c = some (hdL a b c g, 0) := by
  obtain ⟨k, rfl⟩ : ∃ m, k = m + 1 := ⟨k - 1, by omega⟩
  rw [atticref13_Head.j0, u64_pos (x := c) (by omega), u64_pos (x := g) (by omega), if_neg (by decide)]
  have h2 := rnum_f k 2 c.toNat (by omega)
  have h8 := rnum_f k 8 g.toNat (by omega)
  rw [if_neg (by decide)] at h2 h8
  rw [h2, h8]
  unfold hdL
  obtain ⟨u, v, e2⟩ := len2 (numL_length 2 c.toNat)
  obtain ⟨q0, q1, q2, q3, q4, q5, q6, q7, e8⟩ := len8 (numL_length 8 g.toNat)
  rw [show (2 : Int).toNat = 2 from rfl, show (8 : Int).toNat = 8 from rfl, e2, e8]
  rfl
theorem head_w (k : Nat) (a b c g : Int) (hk : 40 ≤ k) : object_Head.f k a b c g = some (HD a b c g) := by
  unfold object_Head.f
  rw [of_w]
  show (if (OF a b c).2 = 0 then _ else _) = _
  unfold HD
  split
  · rename_i h
    have hb := chk_ok (OF_chk h)
    split
    · rename_i h1
      obtain ⟨k, rfl⟩ : ∃ m, k = m + 1 := ⟨k - 1, by omega⟩
      rw [object_Head.j0, if_pos rfl, if_neg (by omega)]
    · rename_i h1
      by_cases h2 : g > 1099511627776
      · obtain ⟨k, rfl⟩ : ∃ m, k = m + 1 := ⟨k - 1, by omega⟩
        rw [decide_eq_true h2, object_Head.j0, if_pos rfl, if_neg (by omega)]
      · rw [decide_eq_false h2, hdj_w k a b c g hb.2.2.1 (by omega) (by omega), if_pos (by omega)]
  · rfl
theorem head_r (k : Nat) (a b c g : Int) (hk : 40 ≤ k) : atticref13_Head.f k a b c g = some (HD a b c g) := by
  unfold atticref13_Head.f
  obtain ⟨m, rfl⟩ : ∃ m, k = m + 20 := ⟨k - 20, by omega⟩
  rw [of_r]
  show (if (OF a b c).2 = 0 then _ else _) = _
  unfold HD
  split
  · rename_i h
    have hb := chk_ok (OF_chk h)
    split
    · rename_i h1
      rw [atticref13_Head.j0, if_pos rfl, if_neg (by omega)]
    · rename_i h1
      by_cases h2 : g > 1099511627776
      · rw [decide_eq_true h2, atticref13_Head.j0, if_pos rfl, if_neg (by omega)]
      · rw [decide_eq_false h2, hdj_r _ a b c g hb.2.2.1 (by omega) (by omega), if_pos (by omega)]
  · rfl
end Go.Proofs.Ytckdnkiacnonkaa.Pure
