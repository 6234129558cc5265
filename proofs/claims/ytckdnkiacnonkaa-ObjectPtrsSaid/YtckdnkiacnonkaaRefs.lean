/- The document's answers on an object's data and pointers are those of the code; plain. -/
import Derived.Test.YtckdnkiacnonkaaClean3
namespace Go.Proofs.Ytckdnkiacnonkaa.Pure
open Go.RowKit Go.Proofs.Ytckdnkiacnonkaa.PAll Go.Proofs.Ytckdnkiacnonkaa.Mem Go.Proofs.YtckdnkiacnonkaaW.PrintWords Go.Proofs.YtckdnkiacnonkaaW.PrintLast Go.Proofs.YtckdnkiacnonkaaW.PrintMore
set_option linter.unusedVariables false
set_option linter.unusedSimpArgs false

theorem dataAt_r {a b c : Int} (h : chk a b c = 0) : atticref11_DataAt.f a b c = some (16 + 8 * b) := by
  have h2 := (chk_ok h).2.1
  unfold atticref11_DataAt.f
  rw [chk_r, h]
  simp only [Option.bind_some, if_true]
  rw [w64id (x := 8 * b) (by omega) (by omega), w64id (by omega) (by omega)]
theorem rdata_f (k : Nat) (l : List Int) (hb : Bytes l) (hl : l.length ≤ 140737488351232) (hk : 1200 ≤ k) : atticref13_Data.f k l = some (DA l) := by
  unfold atticref13_Data.f DA
  by_cases h : IsObj l
  · obtain ⟨e1, e2, e3, e4, e5, e6, e7⟩ := h.nums
    have hs := h.shape.1
    rw [(parse_yes k l hb hl hk h).2, if_pos h]
    simp only [Option.bind_some, if_true]
    rw [dataAt_r hs]
    simp only [Option.bind_some]
    have d1 : 16 + 8 * pb l = ((dfr l : Nat) : Int) := by unfold dfr; omega
    have d2 : wrap64 (16 + 8 * pb l + pc l) = ((dfr l + dn l : Nat) : Int) := by rw [d1, e2, w64id (by omega) (by omega)]; omega
    rw [d2, d1, if_pos (by omega), if_pos (by omega), if_pos (by omega), Int.toNat_natCast, Int.toNat_natCast]
    change (if (0 : Nat) + (dX l).length < _ then _ else _) = _
    rw [if_pos (by omega)]
    rfl
  · rw [(parse_no k l hb hl hk h).2, if_neg h]
    rfl
theorem with_f (l : List Int) (p : Nat) (x : List Int) (hl : l.length ≤ 140737488351232) (hp : p + x.length ≤ l.length) : atticref13_with.f l (p : Int) x = some (over l p x) := by
  unfold atticref13_with.f over
  rw [if_pos (by show (0 : Nat) + _ < _; omega)]
  simp only [Option.bind_some]
  rw [if_pos (by omega), if_pos (by omega), Int.toNat_natCast, List.take_of_length_le (show x.length ≤ l.length - p by omega), List.append_assoc]
theorem rset_f (k : Nat) (l : List Int) (i : Int) (x : List Int) (hb : Bytes l) (hl : l.length ≤ 140737488351232) (hx : x.length ≤ 140737488351232) (hk : 1201 ≤ k) : atticref13_SetData.f k l i x = some (SD l i x) := by
  unfold atticref13_SetData.f SD
  by_cases h : IsObj l
  · obtain ⟨e1, e2, e3, e4, e5, e6, e7⟩ := h.nums
    have hs := h.shape.1
    have hc := (chk_ok hs).2.2.1
    rw [(parse_yes k l hb hl (by omega) h).2, if_pos h]
    simp only [Option.bind_some, if_true]
    obtain ⟨k, rfl⟩ : ∃ m, k = m + 1 := ⟨k - 1, by omega⟩
    by_cases h1 : i < 0
    · rw [if_pos h1, if_pos (.inl h1), atticref13_SetData.j0, if_pos rfl]
    · rw [if_neg h1]
      by_cases h2 : i > pc l
      · rw [if_pos h2, if_pos (.inr (.inl (by omega))), atticref13_SetData.j0, if_pos rfl]
      · rw [if_neg h2]
        rw [w64id (x := pc l - i) (by omega) (by omega)]
        by_cases h3 : (x.length : Int) > pc l - i
        · rw [decide_eq_true h3, if_pos (.inr (.inr (by omega))), atticref13_SetData.j0, if_pos rfl]
        · rw [decide_eq_false h3, if_neg (by omega), atticref13_SetData.j0, if_neg (by decide), dataAt_r hs]
          simp only [Option.bind_some]
          have d1 : wrap64 (16 + 8 * pb l + i) = ((dfr l + i.toNat : Nat) : Int) := by rw [w64id (by omega) (by omega)]; unfold dfr; omega
          rw [d1, with_f l _ x hl (by omega)]
          rfl
  · rw [(parse_no k l hb hl (by omega) h).2, if_neg h]
    rfl
section
variable {A : Option Addr} {c : Nat} {l : List Int} {w : World} (hC : Kd.C (Kd.int .u8) w A l.length l) (hc : l.length ≤ c)
variable {A2 : Option Addr} {c2 : Nat} {x : List Int} (hC2 : Kd.C (Kd.int .u8) w A2 x.length x) (hc2 : x.length ≤ c2)
include hC hc
theorem rData_c (hb : Bytes l) (hl : l.length ≤ 140737488351232) {r : List Int} {n : Int} (h : DA l = (r, n)) : Calls Try.prog 17 #[.slice A l.length c] w (Gives2 w r n) := by
  refine (atticref13_Data.calls 1200 A c l r n w hC hc (by rw [rdata_f _ l hb hl (Nat.le_refl _), h])).mono ?_
  rintro e w' ⟨v, rfl, ho, hb⟩
  exact gives2_of ho hb
include hC2 hc2
theorem rSetData_c (hb : Bytes l) (hl : l.length ≤ 140737488351232) (hx : x.length ≤ 140737488351232) {i : Int} {r : List Int} {n : Int} (h : SD l i x = (r, n)) : Calls Try.prog 19 #[.slice A l.length c, .int .i64 i, .slice A2 x.length c2] w (Gives2 w r n) := by
  refine (atticref13_SetData.calls 1201 A c l i A2 c2 x r n w hC hc hC2 hc2 (by rw [rset_f _ l i x hb hl hx (Nat.le_refl _), h])).mono ?_
  rintro e w' ⟨v, rfl, ho, hb⟩
  exact gives2_of ho hb
theorem equal_c {r : Bool} (h : bytes_Equal.f l x = some r) : Calls Try.prog 15 #[.slice A l.length c, .slice A2 x.length c2] w fun e w' => e = .returned (.bool r) ∧ Below w.heap.size w w' := by
  refine (bytes_Equal.calls A c l A2 c2 x r w hC hc hC2 hc2 h).mono ?_
  rintro e w' ⟨rfl, hd⟩
  exact ⟨rfl, drawn_below hd⟩
end
theorem live_c (w : World) : Calls Try.prog 14 #[] w fun e w' => e = .returned (.bool true) ∧ Below w.heap.size w w' := by
  refine atticlaw13_live.calls 1300 true w ?_
  unfold atticlaw13_live.f
  rw [head_w 1300 1 2 5 9 (by decide)]
  decide +kernel
end Go.Proofs.Ytckdnkiacnonkaa.Pure
