/- Rows of single cells as blocks of memory: what a block holds, and how it reads. -/
import Derived.Test.YtckdnkiacnonkaaWWords
import Derived.Test.YtckdnkiacnonkaaWLast
import Derived.Test.YtckdnkiacnonkaaWMore
import Derived.Laws.CopyOwn
namespace Go.Proofs.Ytckdnkiacnonkaa.Mem
open Go.RowKit Go.Proofs.YtckdnkiacnonkaaW.PrintWords Go.Proofs.YtckdnkiacnonkaaW.PrintLast Go.Proofs.YtckdnkiacnonkaaW.PrintMore
set_option linter.unusedVariables false
set_option linter.unusedSimpArgs false

section
variable {α : Type} {enc : α → Value} {h1 : ∀ x, (enc x).oneCell' = true}
/-- A row of the call's own that has an element lies at a block's beginning. -/
theorem row_blk {e : Nat} {w : World} {base : Nat} {ok : Nat → Prop} {v : Value} {xs : List α} (h : (Kd.scalar enc h1).R e w base ok v xs) (hp : 0 < xs.length) :
    ∃ g cap cur, v = .slice (some ⟨g, 0, none⟩) xs.length cap ∧ base ≤ g ∧ ok g ∧ w.heap[g]? = some (.cells (List.toArray cur) e (0, 0)) ∧ xs.length ≤ cap ∧ cap ≤ maxLen ∧ cur.length = cap ∧ cur.take xs.length = encs enc xs := by
  have ho := Kd.own_of_R h
  rcases ho.2 with ⟨_, h0⟩ | ⟨g, cap, cur, hv, hb, hh, hn, hm, hs, ht⟩
  · omega
  · refine ⟨g, cap, cur.toList, hv, hb, h.1 g (by rw [hv]; rfl), by simpa using hh, hn, hm, by simpa using hs, by simpa using ht⟩
theorem getD_of {L : List Value} {xs : List α} {o : Nat} (h : (L.drop o).take xs.length = encs enc xs) (j : Nat) (hj : j < xs.length) : L[o + j]? = some (enc xs[j]) := by
  have h2 : ((L.drop o).take xs.length)[j]? = (encs enc xs)[j]? := by rw [h]
  rw [List.getElem?_take, if_pos hj, List.getElem?_drop] at h2
  rw [h2]
  simp [encs, List.getElem?_eq_getElem hj]
/-- What lies in a block from a place on reads as a row. -/
theorem blk_C {w : World} {g e o : Nat} {fr : Nat × Nat} {cur : List Value} {xs : List α} (hg : w.heap[g]? = some (.cells cur.toArray e fr)) (ht : (cur.drop o).take xs.length = encs enc xs) (hm : xs.length ≤ 9223372036854775807) : (Kd.scalar enc h1).C w (some ⟨g, o, none⟩) xs.length xs := by
  refine ⟨rfl, hm, fun _ => ⟨_, rfl, fun j p hj => ⟨[enc p], rfl, rfl, fun i u hu => ?_⟩⟩⟩
  have hj' : j < xs.length := by
    rcases Nat.lt_or_ge j xs.length with h | h
    · exact h
    · rw [List.getElem?_eq_none h] at hj
      cases hj
  have hi : i = 0 := by
    rcases Nat.eq_zero_or_pos i with h | h
    · exact h
    · rw [List.getElem?_eq_none (by simp; omega)] at hu
      cases hu
  subst hi
  have hu' : enc p = u := by simpa using hu
  rw [List.getElem?_eq_getElem hj'] at hj
  obtain rfl : xs[j] = p := by simpa using hj
  have := getD_of ht j hj'
  show w.cell? ((⟨g, o, none⟩ : Addr).add (j * 1 + 0)) = some u
  rw [Nat.mul_one, Nat.add_zero, add_at]
  unfold World.cell?
  simp only [hg]
  rw [← hu']
  simpa using this
/-- A row that lies over another one, from a place on. -/
def over (l : List α) (o : Nat) (x : List α) : List α := l.take o ++ (x ++ l.drop (o + x.length))
theorem over_length {l : List α} {o : Nat} {x : List α} (h : o + x.length ≤ l.length) : (over l o x).length = l.length := by simp [over]; omega
theorem splice_take {cur : List Value} {l x : List α} {o : Nat} (ht : cur.take l.length = encs enc l) (hx : o + x.length ≤ l.length) (hl : l.length ≤ cur.length) : (splice cur o (encs enc x)).take l.length = encs enc (over l o x) := by
  have hlen : (over l o x).length = l.length := over_length hx
  have hs : (splice cur o (encs enc x)).length = cur.length := length_splice _ _ _ (by simp [encs]; omega)
  apply List.ext_getElem?
  intro j
  rcases Nat.lt_or_ge j l.length with hj | hj
  · rw [List.getElem?_take, if_pos hj]
    have hc : cur[j]? = (encs enc l)[j]? := by rw [← ht, List.getElem?_take, if_pos hj]
    unfold splice over encs at *
    have e1 : min o cur.length = o := Nat.min_eq_left (by omega)
    have e2 : min o l.length = o := Nat.min_eq_left (by omega)
    simp only [List.map_append, List.map_take, List.map_drop, List.getElem?_append, List.length_take, List.length_map, e1, e2, List.getElem?_take, List.getElem?_drop]
    by_cases h1 : j < o
    · simp only [h1, if_true, hc]
    · by_cases h2 : j - o < x.length
      · simp only [h1, h2, if_true, if_false]
      · simp only [h1, h2, if_false, show o + x.length + (j - o - x.length) = j by omega, hc]
  · rw [List.getElem?_eq_none (by rw [List.length_take]; omega), List.getElem?_eq_none (by simp [encs, hlen]; omega)]
/-- The cells from which a row is copied. -/
theorem C_cells {w : World} {A : Option Addr} {n : Nat} {xs : List α} (h : (Kd.scalar enc h1).C w A n xs) (k : Nat) (hk : k ≤ n) (hp : 0 < k) : ∃ ad, A = some ad ∧ ∀ j v, (encs enc (xs.take k))[j]? = some v → w.cell? (ad.add j) = some v := by
  have hn : xs.length = n := h.1
  obtain ⟨ad, hA, hc⟩ := h.2.2 (by omega)
  refine ⟨ad, hA, fun j v hv => ?_⟩
  have hj : j < k := by
    rcases Nat.lt_or_ge j k with h | h
    · exact h
    · rw [List.getElem?_eq_none (by simp [encs]; omega)] at hv
      cases hv
  have hv' : enc (xs[j]'(by omega)) = v := by
    simp [encs, List.getElem?_take, hj, List.getElem?_eq_getElem (show j < xs.length by omega)] at hv
    exact hv
  obtain ⟨c, _, hK, hcell⟩ := hc j _ (List.getElem?_eq_getElem (by omega))
  have hK' : c = [enc (xs[j]'(by omega))] := hK
  have := hcell 0 v (by rw [hK', ← hv']; rfl)
  have hz : (Kd.scalar enc h1).sz = 1 := rfl
  rw [hz, Nat.mul_one, Nat.add_zero] at this
  exact this
theorem encs_one (xs : List α) (h1 : ∀ x, (enc x).oneCell' = true) : ∀ v ∈ encs enc xs, v.oneCell' = true := by
  intro v hv
  simp only [encs, List.mem_map] at hv
  obtain ⟨q, _, rfl⟩ := hv
  exact h1 q
end
end Go.Proofs.Ytckdnkiacnonkaa.Mem
