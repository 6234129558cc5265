/- The document's answers on an object's pointers are those of the code; plain. -/
import Derived.Test.YtckdnkiacnonkaaPtrsTold
namespace Go.Proofs.Ytckdnkiacnonkaa.Pure
open Go.RowKit Go.Proofs.Ytckdnkiacnonkaa.PAll Go.Proofs.Ytckdnkiacnonkaa.Mem Go.Proofs.YtckdnkiacnonkaaW.PrintWords Go.Proofs.YtckdnkiacnonkaaW.PrintLast Go.Proofs.YtckdnkiacnonkaaW.PrintMore
set_option linter.unusedVariables false
set_option linter.unusedSimpArgs false

theorem rptr_f (k : Nat) (l : List Int) (i : Int) (hb : Bytes l) (hl : l.length ≤ 140737488351232) (hk : 1201 ≤ k) : atticref13_Ptr.f k l i = some (PT l i) := by
  unfold atticref13_Ptr.f PT
  by_cases h : IsObj l
  · obtain ⟨e1, e2, e3, e4⟩ := h.pn
    have hs := h.shape.1
    rw [(parse_yes k l hb hl (by omega) h).2, if_pos h]
    simp only [Option.bind_some, if_true]
    obtain ⟨k, rfl⟩ : ∃ m, k = m + 1 := ⟨k - 1, by omega⟩
    by_cases h1 : i < 0
    · rw [if_pos h1, if_pos (.inl h1), atticref13_Ptr.j0, if_pos rfl]
    · rw [if_neg h1]
      by_cases h2 : i ≥ pb l
      · rw [decide_eq_true h2, if_pos (.inr (by omega)), atticref13_Ptr.j0, if_pos rfl]
      · rw [decide_eq_false h2, if_neg (by omega), atticref13_Ptr.j0, if_neg (by decide), (ptrAt_in hs (by omega) (by omega)).2]
        simp only [Option.bind_some]
        rw [(get_f k l (16 + 8 * i) 8 hb (by omega) (by omega)).2]
        simp only [Option.bind_some]
        unfold getA
        rw [if_neg (by omega), show (8 : Int).toNat = 8 from rfl, show (16 + 8 * i).toNat = 16 + 8 * i.toNat by omega]
  · rw [(parse_no k l hb hl (by omega) h).2, if_neg h]
    rfl
theorem rsetptr_f (k : Nat) (l : List Int) (i : Int) (u : Nat) (hb : Bytes l) (hl : l.length ≤ 140737488351232) (hk : 1201 ≤ k) : atticref13_SetPtr.f k l i (u : Int) = some (SP l i u) := by
  unfold atticref13_SetPtr.f SP
  rw [rptr_f k l i hb hl hk]
  simp only [Option.bind_some]
  unfold PT
  by_cases h : IsObj l
  · obtain ⟨e1, e2, e3, e4⟩ := h.pn
    have hs := h.shape.1
    rw [if_pos h, if_pos h]
    by_cases h1 : i < 0 ∨ i ≥ (pn l : Int)
    · rw [if_pos h1, if_pos h1]
      rfl
    · rw [if_neg h1, if_neg h1, (parse_yes k l hb hl (by omega) h).2]
      simp only [Option.bind_some, if_true]
      rw [(ptrAt_in hs (by omega) (by omega)).2]
      simp only [Option.bind_some]
      rw [rnum_f k 8 u (by omega), if_neg (by decide)]
      simp only [Option.bind_some]
      rw [show (16 + 8 * i) = ((16 + 8 * i.toNat : Nat) : Int) by omega, with_f l _ _ hl (by rw [numL_length, show (8 : Int).toNat = 8 from rfl]; omega)]
      rfl
  · rw [if_neg h, if_neg h]
    rfl
theorem rptrs_l0 (l : List Int) (hb : Bytes l) (hl : l.length ≤ 140737488351232) (a c : Int) (d : Nat) : ∀ (k i : Nat), i + d = np l → 1202 + d ≤ k → atticref13_Ptrs.l0 k l 0 ((pL l).take i) (i : Int) a (np l : Int) c = some (pL l) := by
  have hnp := np_le l
  have hpl := pL_length l
  induction d with
  | zero =>
    intro k i hi hk
    obtain ⟨k, rfl⟩ : ∃ m, k = m + 1 := ⟨k - 1, by omega⟩
    rw [atticref13_Ptrs.l0, if_neg (by omega), List.take_of_length_le (by omega)]
  | succ d ih =>
    intro k i hi hk
    obtain ⟨k, rfl⟩ : ∃ m, k = m + 1 := ⟨k - 1, by omega⟩
    rw [atticref13_Ptrs.l0, if_pos (by omega), if_pos rfl, rptr_f k l _ hb hl (by omega), PT_pw l i (by omega)]
    simp only [Option.bind_some]
    rw [if_pos (by rw [List.length_take]; omega), w64id (by omega) (by omega)]
    have := ih k (i + 1) (by omega) (by omega)
    rw [List.take_succ_eq_append_getElem (by omega), pL_get] at this
    exact this
theorem rptrs_f (l : List Int) (hb : Bytes l) (hl : l.length ≤ 140737488351232) : atticref13_Ptrs.f 1400 l = some (pL l) := by
  unfold atticref13_Ptrs.f
  have hnp := np_le l
  by_cases h : IsObj l
  · rw [(parse_yes 1400 l hb hl (by omega) h).2]
    simp only [Option.bind_some]
    have he : pb l = (np l : Int) := by unfold np; rw [if_pos h]; exact h.pn.1
    rw [he]
    exact rptrs_l0 l hb hl _ _ (np l) 1400 0 (by omega) (by omega)
  · rw [(parse_no 1400 l hb hl (by omega) h).2]
    simp only [Option.bind_some]
    have he : np l = 0 := by unfold np; rw [if_neg h]
    have : pL l = [] := by unfold pL; rw [he]; rfl
    rw [this, atticref13_Ptrs.l0, if_neg (by decide)]
theorem eq64_l0 (l : List Int) (hn : l.length ≤ 1000000) (d : Nat) : ∀ (k i : Nat), i + d = l.length → d < k → slices_Equal_uint64_uint64.l0 k l l (l.length : Int) (i : Int) = some true := by
  induction d with
  | zero =>
    intro k i hi hk
    obtain ⟨k, rfl⟩ : ∃ m, k = m + 1 := ⟨k - 1, by omega⟩
    rw [slices_Equal_uint64_uint64.l0, if_neg (by omega)]
  | succ d ih =>
    intro k i hi hk
    obtain ⟨k, rfl⟩ : ∃ m, k = m + 1 := ⟨k - 1, by omega⟩
    rw [slices_Equal_uint64_uint64.l0, if_pos (by omega), if_pos (by omega), if_pos (by omega), if_pos (by omega), if_pos rfl, w64id (by omega) (by omega)]
    exact ih k (i + 1) (by omega) (by omega)
theorem eq64_f (l : List Int) (hn : l.length ≤ 1000000) : slices_Equal_uint64_uint64.f (l.length + 1) l l = some true := by
  unfold slices_Equal_uint64_uint64.f
  rw [if_pos rfl]
  exact eq64_l0 l hn l.length _ 0 (by omega) (by omega)
/-- Numbers that are handed back. -/
def Gives64 (w : World) (r : List Int) (e : Ending) (w' : World) : Prop := ∃ A c, e = .returned (.slice A r.length c) ∧ r.length ≤ c ∧ Kd.C (Kd.int .u64) w' A r.length r ∧ Below w.heap.size w w'
section
variable {A : Option Addr} {c : Nat} {l : List Int} {w : World} (hC : Kd.C (Kd.int .u8) w A l.length l) (hc : l.length ≤ c) (hb : Bytes l) (hl : l.length ≤ 140737488351232)
include hC hc hb hl
theorem rPtr_c {i v n : Int} (h : PT l i = (v, n)) : Calls Try.prog 21 #[.slice A l.length c, .int .i64 i] w fun e w' => e = .returned (.tuple #[.int .u64 v, .int .i64 n]) ∧ Below w.heap.size w w' :=
  atticref13_Ptr.calls 1201 A c l i v n w hC hc (by rw [rptr_f _ l i hb hl (Nat.le_refl _), h])
theorem rSetPtr_c {i : Int} {u : Nat} {r : List Int} {n : Int} (h : SP l i u = (r, n)) : Calls Try.prog 23 #[.slice A l.length c, .int .i64 i, .int .u64 (u : Int)] w (Gives2 w r n) := by
  refine (atticref13_SetPtr.calls 1201 A c l i u r n w hC hc (by rw [rsetptr_f _ l i u hb hl (Nat.le_refl _), h])).mono ?_
  rintro e w' ⟨v, rfl, ho, hb⟩
  exact gives2_of ho hb
theorem rPtrs_c : Calls Try.prog 25 #[.slice A l.length c] w (Gives64 w (pL l)) := by
  refine (atticref13_Ptrs.calls 1400 A c l _ w hC hc (rptrs_f l hb hl)).mono ?_
  rintro e w' ⟨v, rfl, ho, hb⟩
  obtain ⟨A, c, rfl, hc, hC⟩ := Kd.R_reads ho
  exact ⟨A, c, rfl, hc, hC, hb⟩
end
theorem eq64_c {A A2 : Option Addr} {c c2 : Nat} {l : List Int} {w : World} (hC : Kd.C (Kd.int .u64) w A l.length l) (hc : l.length ≤ c) (hC2 : Kd.C (Kd.int .u64) w A2 l.length l) (hc2 : l.length ≤ c2) (hn : l.length ≤ 1000000) : Calls Try.prog 26 #[.slice A l.length c, .slice A2 l.length c2] w fun e w' => e = .returned (.bool true) ∧ Below w.heap.size w w' := by
  refine (slices_Equal_uint64_uint64.calls _ A c l A2 c2 l true w hC hc hC2 hc2 (eq64_f l hn)).mono ?_
  rintro e w' ⟨rfl, hd⟩
  exact ⟨rfl, by first | exact hd | exact drawn_below hd⟩
end Go.Proofs.Ytckdnkiacnonkaa.Pure
