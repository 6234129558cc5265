/- An object's bytes of which a pointer or data are set: just that is another one; plain. -/
import Derived.Test.YtckdnkiacnonkaaObjB
namespace Go.Proofs.Ytckdnkiacnonkaa.Pure
open Go.RowKit Go.Proofs.Ytckdnkiacnonkaa.PAll Go.Proofs.Ytckdnkiacnonkaa.Mem Go.Proofs.YtckdnkiacnonkaaW.PrintWords Go.Proofs.YtckdnkiacnonkaaW.PrintLast Go.Proofs.YtckdnkiacnonkaaW.PrintMore
set_option linter.unusedVariables false
set_option linter.unusedSimpArgs false

theorem dX_seg (l : List Int) : dX l = (l.drop (dfr l)).take (dn l) := by
  unfold dX
  rw [List.drop_take, Nat.add_sub_cancel_left]
theorem Obj3.eqs {l l' : List Int} {a b c g : Int} (h : Obj3 l a b c g) (h' : Obj3 l' a b c g) : dfr l' = dfr l ∧ dn l' = dn l ∧ pn l' = pn l ∧ np l' = np l := by
  have e1 : dfr l' = dfr l := by unfold dfr; rw [h.b_, h'.b_]
  have e2 : dn l' = dn l := by unfold dn; rw [h.c_, h'.c_]
  have e3 : pn l' = pn l := by unfold pn; rw [h.b_, h'.b_]
  exact ⟨e1, e2, e3, by unfold np; rw [if_pos h.obj, if_pos h'.obj, e3]⟩
theorem pL_ext {l l' : List Int} (h : np l' = np l) (hw : ∀ i, i < np l → pw l' i = pw l i) : pL l' = pL l := by
  unfold pL
  rw [h]
  apply List.map_congr_left
  intro i hi
  exact hw i (List.mem_range.1 hi)
theorem numL_bytes8 (u : Nat) : Bytes (numL 8 u) := numL_bytes 8 u
theorem set_ptr {l : List Int} {a b c g : Int} (h : Obj3 l a b c g) (hb : Bytes l) (i u : Nat) (hi : i < pn l) (hu : u < 18446744073709551616) :
    Obj3 (over l (16 + 8 * i) (numL 8 u)) a b c g ∧ Bytes (over l (16 + 8 * i) (numL 8 u)) ∧ pL (over l (16 + 8 * i) (numL 8 u)) = (pL l).set i (u : Int) ∧ dX (over l (16 + 8 * i) (numL 8 u)) = dX l ∧ (over l (16 + 8 * i) (numL 8 u)).length = l.length := by
  obtain ⟨e1, e2, e3, e4⟩ := h.obj.pn
  have hfit : 16 + 8 * i + (numL 8 u).length ≤ l.length := by rw [numL_length]; omega
  have h' := obj3_over h hfit (by omega)
  obtain ⟨q1, q2, q3, q4⟩ := h.eqs h'
  obtain ⟨f1, f2, f3, f4, f5, f6, f7⟩ := h.obj.nums
  refine ⟨h', over_bytes hb (numL_bytes8 u), ?_, ?_, over_length hfit⟩
  · apply List.ext_getElem
    · rw [pL_length, q4, List.length_set, pL_length]
    · intro j h1 h2
      rw [pL_length, q4] at h1
      have hnp : np l = pn l := by unfold np; rw [if_pos h.obj]
      rw [pL_get, List.getElem_set]
      by_cases hj : i = j
      · subst hj
        rw [if_pos rfl]
        unfold pw getL
        have := over_same hfit
        rw [numL_length] at this
        rw [this, gnum_numL, Nat.mod_eq_of_lt (by omega)]
      · rw [if_neg hj, pL_get]
        unfold pw getL
        rw [over_apart hfit (by rw [numL_length]; omega)]
  · rw [dX_seg, dX_seg, q1, q2, over_apart hfit (.inr (by rw [numL_length]; unfold dfr; unfold pn at hi; omega))]
theorem set_data {l x : List Int} {a b c g : Int} (h : Obj3 l a b c g) (hb : Bytes l) (hx : Bytes x) (i : Nat) (hi : i + x.length ≤ dn l) :
    Obj3 (over l (dfr l + i) x) a b c g ∧ Bytes (over l (dfr l + i) x) ∧ pL (over l (dfr l + i) x) = pL l ∧ dX (over l (dfr l + i) x) = over (dX l) i x ∧ (over l (dfr l + i) x).length = l.length := by
  obtain ⟨f1, f2, f3, f4, f5, f6, f7⟩ := h.obj.nums
  have hfit : dfr l + i + x.length ≤ l.length := by omega
  have h' := obj3_over h hfit (by unfold dfr; omega)
  obtain ⟨q1, q2, q3, q4⟩ := h.eqs h'
  refine ⟨h', over_bytes hb hx, ?_, ?_, over_length hfit⟩
  · refine pL_ext q4 (fun j hj => ?_)
    have hnp : np l = pn l := by unfold np; rw [if_pos h.obj]
    unfold pw getL
    rw [over_apart hfit (.inl (by unfold dfr; unfold pn at hnp; omega))]
  · rw [dX_seg, dX_seg, q1, q2, over_in hi f3]
end Go.Proofs.Ytckdnkiacnonkaa.Pure
