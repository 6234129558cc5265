/- Rows of bytes in blocks of their own. -/
import Derived.Test.YthnadkdfgckijaaFr
namespace Go.Proofs.Ythnadkdfgckijaa.Pure
open Go.RowKit Go.Proofs.Ythnadkdfgckijaa.Mem Go.Proofs.YthnadkdfgckijaaW.PrintWords Go.Proofs.YthnadkdfgckijaaW.PrintLast Go.Proofs.YthnadkdfgckijaaW.PrintMore
set_option linter.unusedVariables false
set_option linter.unusedSimpArgs false

/-- A row's bytes, and if it has any, the block of the call's own in which it lies. -/
structure Own (w : World) (base : Nat) (A : Option Addr) (c : Nat) (l : List Int) : Prop where
  cap : l.length ≤ c
  C : Kd.C (Kd.int .u8) w A l.length l
  blk : 0 < l.length → ∃ g cur, A = some ⟨g, 0, none⟩ ∧ base ≤ g ∧ w.heap[g]? = some (.cells (List.toArray cur) 5 (0, 0)) ∧ cur.take l.length = encs (Value.int .u8) l
theorem own_of {w : World} {base : Nat} {ok : Nat → Prop} {v : Value} {l : List Int} (h : Kd.R (Kd.int .u8) 5 w base ok v l) : ∃ A c, v = .slice A l.length c ∧ Own w base A c l := by
  obtain ⟨A, c, rfl, hc, hC⟩ := Kd.R_reads h
  refine ⟨A, c, rfl, hc, hC, fun hp => ?_⟩
  obtain ⟨g, cap, cur, hv, hb, _, hh, hn, hm, hs, ht⟩ := row_blk (enc := Value.int .u8) (h1 := fun _ => rfl) h hp
  injection hv with h1 h2 h3
  exact ⟨g, cur, h1, hb, hh, ht⟩
theorem own_kept {w w1 : World} {base : Nat} {A : Option Addr} {c : Nat} {l : List Int} (h : Own w base A c l) (hk : ∀ g, 0 < l.length → A = some ⟨g, 0, none⟩ → w1.heap[g]? = w.heap[g]?) : Own w1 base A c l := by
  refine ⟨h.cap, ?_, fun hp => ?_⟩
  · rcases Nat.eq_zero_or_pos l.length with h0 | hp
    · exact ⟨rfl, h.C.2.1, fun h1 => absurd h1 (by omega)⟩
    · obtain ⟨g, cur, h1, h2, h3, h4⟩ := h.blk hp
      rw [h1]
      exact blk_C (enc := Value.int .u8) (h1 := fun _ => rfl) ((hk g hp h1).trans h3) (by simpa using h4) h.C.2.1
  · obtain ⟨g, cur, h1, h2, h3, h4⟩ := h.blk hp
    exact ⟨g, cur, h1, h2, (hk g hp h1).trans h3, h4⟩
theorem own_lt {w : World} {base : Nat} {A : Option Addr} {c : Nat} {l : List Int} (h : Own w base A c l) : ∀ g, 0 < l.length → A = some ⟨g, 0, none⟩ → base ≤ g ∧ g < w.heap.size := fun g hp hA => by
  obtain ⟨g', cur, h1, h2, h3, h4⟩ := h.blk hp
  rw [hA] at h1
  injection h1 with h1
  injection h1 with h1
  subst h1
  exact ⟨h2, blk_lt h3⟩
theorem own_below {w w1 : World} {base : Nat} {A : Option Addr} {c : Nat} {l : List Int} (h : Own w base A c l) (hb : Below w.heap.size w w1) : Own w1 base A c l := own_kept h (fun g hp hA => hb.block _ (own_lt h g hp hA).2)
theorem own_fr {w w1 : World} {base : Nat} {A : Option Addr} {c : Nat} {l : List Int} {F : Nat → Prop} (h : Own w base A c l) (hf : Fr F w w1) (hn : ∀ g, 0 < l.length → A = some ⟨g, 0, none⟩ → ¬ F g) : Own w1 base A c l := own_kept h (fun g hp hA => hf.block _ (own_lt h g hp hA).2 (hn g hp hA))
theorem own_lower {w : World} {b b0 : Nat} {A : Option Addr} {c : Nat} {l : List Int} (h : Own w b A c l) (hb : b0 ≤ b) : Own w b0 A c l := ⟨h.cap, h.C, fun hp => by
  obtain ⟨g, cur, h1, h2, h3⟩ := h.blk hp
  exact ⟨g, cur, h1, Nat.le_trans hb h2, h3⟩⟩
def RowAt (w : World) (g n : Nat) : Prop := 0 < n → ∃ cur : List Value, w.heap[g]? = some (.cells cur.toArray 5 (0, 0)) ∧ ∀ j, j < n → ∃ x, cur[j]? = some (.int .u8 x)
/-- The block in which a row lies; of a row without an element: one that is not there yet. -/
theorem pick_blk {w : World} {base : Nat} {A : Option Addr} {c : Nat} {l : List Int} (h : Own w base A c l) (hb : base ≤ w.heap.size) :
    ∃ g, base ≤ g ∧ ((l.length = 0 ∧ g = w.heap.size) ∨ (0 < l.length ∧ A = some ⟨g, 0, none⟩ ∧ g < w.heap.size)) ∧ RowAt w g l.length := by
  rcases Nat.eq_zero_or_pos l.length with h0 | hp
  · exact ⟨w.heap.size, hb, .inl ⟨h0, rfl⟩, fun hp => absurd hp (by omega)⟩
  · obtain ⟨g, cur, h1, h2, h3, h4⟩ := h.blk hp
    refine ⟨g, h2, .inr ⟨hp, h1, blk_lt h3⟩, fun _ => ⟨cur, h3, fun j hj => ⟨l[j], ?_⟩⟩⟩
    have := getD_of (L := cur) (xs := l) (o := 0) (enc := Value.int .u8) (by simpa using h4) j hj
    rwa [Nat.zero_add] at this
theorem rowAt_cell {w : World} {g n : Nat} (h : RowAt w g n) {k : Nat} (hk : k < n) : ∃ x, w.cell? ⟨g, k, none⟩ = some (.int .u8 x) ∧ w.frozen? ⟨g, k, none⟩ = false := by
  obtain ⟨cur, h1, h2⟩ := h (by omega)
  obtain ⟨x, hx⟩ := h2 k hk
  exact ⟨x, by rw [blk_cell h1]; simpa using hx, blk_frozen h1 k⟩
theorem rowAt_set {w : World} {g n : Nat} (h : RowAt w g n) (k : Nat) (y : Int) : RowAt (w.setCell ⟨g, k, none⟩ (.int .u8 y)) g n := fun hp => by
  obtain ⟨cur, h1, h2⟩ := h hp
  refine ⟨cur.set k (.int .u8 y), by rw [blk_set h1]; simp, fun j hj => ?_⟩
  rw [List.getElem?_set]
  by_cases e : k = j
  · subst e
    obtain ⟨x, hx⟩ := h2 k hj
    have hlt : k < cur.length := (List.getElem?_eq_some_iff.1 hx).1
    rw [if_pos rfl, if_pos hlt]
    exact ⟨y, rfl⟩
  · rw [if_neg e]
    exact h2 j hj
theorem rowAt_kept {w w1 : World} {g n : Nat} (h : RowAt w g n) (hk : 0 < n → w1.heap[g]? = w.heap[g]?) : RowAt w1 g n := fun hp => by
  obtain ⟨cur, h1, h2⟩ := h hp
  exact ⟨cur, (hk hp).trans h1, h2⟩
end Go.Proofs.Ythnadkdfgckijaa.Pure
