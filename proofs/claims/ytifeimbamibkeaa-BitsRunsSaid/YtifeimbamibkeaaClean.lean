/- The contracts of the functions on rows of bits, in the form in which the walks of the statements use them. -/
import Derived.Test.YtifeimbamibkeaaNexts
namespace Go.Proofs.Ytifeimbamibkeaa.Pure
open Go.RowKit Go.Proofs.Ytifeimbamibkeaa.PAll Go.Proofs.YtifeimbamibkeaaW.PrintWords Go.Proofs.YtifeimbamibkeaaW.PrintLast Go.Proofs.YtifeimbamibkeaaW.PrintMore
set_option linter.unusedVariables false

/-- A row that is handed back: it reads as r, and nothing that was there is another one. -/
def Gives (w : World) (r : List Int) (e : Ending) (w' : World) : Prop := ∃ A c, e = .returned (.slice A r.length c) ∧ r.length ≤ c ∧ Kd.C (Kd.int .u8) w' A r.length r ∧ Below w.heap.size w w'
/-- A row and an error. -/
def Gives2 (w : World) (r : List Int) (n : Int) (e : Ending) (w' : World) : Prop := ∃ A c, e = .returned (.tuple #[.slice A r.length c, .int .i64 n]) ∧ r.length ≤ c ∧ Kd.C (Kd.int .u8) w' A r.length r ∧ Below w.heap.size w w'
theorem gives_of {w w' : World} {v : Value} {r : List Int} {e : Nat} {base : Nat} {ok : Nat → Prop} (ho : Kd.R (Kd.int .u8) e w' base ok v r) (hb : Below w.heap.size w w') : Gives w r (.returned v) w' := by
  obtain ⟨A, c, rfl, hc, hC⟩ := Kd.R_reads ho
  exact ⟨A, c, rfl, hc, hC, hb⟩
theorem gives2_of {w w' : World} {v : Value} {r : List Int} {n : Int} {e : Nat} {base : Nat} {ok : Nat → Prop} (ho : Kd.R (Kd.int .u8) e w' base ok v r) (hb : Below w.heap.size w w') : Gives2 w r n (.returned (.tuple #[v, .int .i64 n])) w' := by
  obtain ⟨A, c, rfl, hc, hC⟩ := Kd.R_reads ho
  exact ⟨A, c, rfl, hc, hC, hb⟩
theorem drawn_below {w w' : World} (h : Drawn0 w w') : Below w.heap.size w w' := by
  obtain ⟨n, rfl⟩ := h.out
  exact pw_below_drewN (Below.refl _ _) n
section
variable {A : Option Addr} {c : Nat} {l : List Int} {w : World} (hC : Kd.C (Kd.int .u8) w A l.length l) (hc : l.length ≤ c)
variable {A2 : Option Addr} {c2 : Nat} {l2 : List Int} (hC2 : Kd.C (Kd.int .u8) w A2 l2.length l2) (hc2 : l2.length ≤ c2)
/-- A row's cell in a literal of one. -/
theorem lit1 (m : Nat × Nat) (hC : Kd.C (Kd.int .u8) w A l.length l) (hc : l.length ≤ c) : Kd.C (Kd.slice 5 (Kd.int .u8)) (w.alloc (.cells #[.slice A l.length c] 22 m)) (some ⟨w.heap.size, 0, none⟩) [l].length [l] := by
  have hn := Kd.C_alloc hC (.cells #[.slice A l.length c] 22 m)
  have hh : (w.alloc (.cells #[.slice A l.length c] 22 m)).heap[w.heap.size]? = some (.cells #[.slice A l.length c] 22 m) := by
    show (w.heap.push _)[w.heap.size]? = _
    simp
  refine ⟨rfl, by simp, fun _ => ⟨_, rfl, fun j p hj => ⟨[.slice A l.length c], rfl, ?_, fun i u hu => ?_⟩⟩⟩
  · have hj0 : j = 0 := by
      rcases Nat.eq_zero_or_pos j with h | h
      · exact h
      · rw [List.getElem?_eq_none (by simp; omega)] at hj
        cases hj
    subst hj0
    obtain rfl : l = p := by simpa using hj
    exact ⟨A, c, rfl, hc, hn⟩
  · have hj0 : j = 0 := by
      rcases Nat.eq_zero_or_pos j with h | h
      · exact h
      · rw [List.getElem?_eq_none (by simp; omega)] at hj
        cases hj
    have hi0 : i = 0 := by
      rcases Nat.eq_zero_or_pos i with h | h
      · exact h
      · rw [List.getElem?_eq_none (by simp; omega)] at hu
        cases hu
    subst hj0 hi0
    have hu' : Value.slice A l.length c = u := by simpa using hu
    subst hu'
    rw [show (⟨w.heap.size, 0, none⟩ : Addr).add (0 * (Kd.slice 5 (Kd.int .u8)).sz + 0) = ⟨w.heap.size, 0, none⟩ from rfl]
    unfold World.cell?
    simp only [hh]
    rfl
/-- Of two. -/
theorem lit2 (m : Nat × Nat) (hC : Kd.C (Kd.int .u8) w A l.length l) (hc : l.length ≤ c) (hC2 : Kd.C (Kd.int .u8) w A2 l2.length l2) (hc2 : l2.length ≤ c2) : Kd.C (Kd.slice 5 (Kd.int .u8)) (w.alloc (.cells #[.slice A l.length c, .slice A2 l2.length c2] 22 m)) (some ⟨w.heap.size, 0, none⟩) [l, l2].length [l, l2] := by
  have hn := Kd.C_alloc hC (.cells #[.slice A l.length c, .slice A2 l2.length c2] 22 m)
  have hn2 := Kd.C_alloc hC2 (.cells #[.slice A l.length c, .slice A2 l2.length c2] 22 m)
  have hh : (w.alloc (.cells #[.slice A l.length c, .slice A2 l2.length c2] 22 m)).heap[w.heap.size]? = some (.cells #[.slice A l.length c, .slice A2 l2.length c2] 22 m) := by
    show (w.heap.push _)[w.heap.size]? = _
    simp
  refine ⟨rfl, by simp, fun _ => ⟨_, rfl, fun j p hj => ?_⟩⟩
  have hj0 : j = 0 ∨ j = 1 := by
    rcases Nat.lt_or_ge j 2 with h | h
    · omega
    · rw [List.getElem?_eq_none (by simp; omega)] at hj
      cases hj
  rcases hj0 with rfl | rfl
  · obtain rfl : l = p := by simpa using hj
    refine ⟨[.slice A l.length c], rfl, ⟨A, c, rfl, hc, hn⟩, fun i u hu => ?_⟩
    have hi0 : i = 0 := by
      rcases Nat.eq_zero_or_pos i with h | h
      · exact h
      · rw [List.getElem?_eq_none (by simp; omega)] at hu
        cases hu
    subst hi0
    have hu' : Value.slice A l.length c = u := by simpa using hu
    subst hu'
    rw [show (⟨w.heap.size, 0, none⟩ : Addr).add (0 * (Kd.slice 5 (Kd.int .u8)).sz + 0) = ⟨w.heap.size, 0, none⟩ from rfl]
    unfold World.cell?
    simp only [hh]
    rfl
  · obtain rfl : l2 = p := by simpa using hj
    refine ⟨[.slice A2 l2.length c2], rfl, ⟨A2, c2, rfl, hc2, hn2⟩, fun i u hu => ?_⟩
    have hi0 : i = 0 := by
      rcases Nat.eq_zero_or_pos i with h | h
      · exact h
      · rw [List.getElem?_eq_none (by simp; omega)] at hu
        cases hu
    subst hi0
    have hu' : Value.slice A2 l2.length c2 = u := by simpa using hu
    subst hu'
    rw [show (⟨w.heap.size, 0, none⟩ : Addr).add (1 * (Kd.slice 5 (Kd.int .u8)).sz + 0) = ⟨w.heap.size, 1, none⟩ from rfl]
    unfold World.cell?
    simp only [hh]
    rfl
include hC hc
theorem few1 (m : Nat × Nat) : Calls Try.prog 11 #[.slice (some ⟨w.heap.size, 0, none⟩) 1 1] (w.alloc (.cells #[.slice A l.length c] 22 m)) fun e w' => e = .returned (.bool (decide (l.length ≤ 3000))) ∧ Below w.heap.size w w' := by
  have hf : atticlaw02_few.f 3 [l] = some (decide (l.length ≤ 3000)) := by
    unfold atticlaw02_few.f
    show atticlaw02_few.l0 3 [l] 1 0 = _
    rw [atticlaw02_few.l0, if_pos (by decide), if_pos (by decide), if_pos (by simp), show wrap64 (0 + 1) = 1 from by decide +kernel]
    change (if ((l.length : Nat) : Int) > 3000 then some false else atticlaw02_few.l0 2 [l] 1 1) = _
    by_cases h : l.length ≤ 3000
    · rw [if_neg (by omega), decide_eq_true h]
      rfl
    · rw [if_pos (by omega), decide_eq_false h]
  refine (atticlaw02_few.calls 3 _ 1 [l] _ _ (lit1 m hC hc) (Nat.le_refl _) hf).mono ?_
  rintro e w' ⟨rfl, hd⟩
  exact ⟨rfl, ((Below.refl _ w).alloc (Nat.le_refl _) _).trans ((drawn_below hd).mono (by simp))⟩
theorem clone_c (hl : l.length < 140737488355328) : Calls Try.prog 19 #[.slice A l.length c] w (Gives w l) := by
  refine (bytes_Clone.calls A c l l w hC hc (clone_f l hl)).mono ?_
  rintro e w' ⟨v, rfl, ho, hb⟩
  exact gives_of ho hb
theorem put_c (hb : Bytes l) (hl : l.length < 140737488355328) (i : Int) (hi : -9223372036854775808 ≤ i ∧ i ≤ 9223372036854775807) (b : Bool) : Calls Try.prog 20 #[.slice A l.length c, .int .i64 i, .bool b] w (Gives w (putA l i b)) := by
  refine (bits_Put.calls A c l i b _ w hC hc (put_f l i b hb hl hi)).mono ?_
  rintro e w' ⟨v, rfl, ho, hb⟩
  exact gives_of ho hb
theorem rput_c (hb : Bytes l) (hl : l.length < 140737488355328) (i : Int) (hi : -9223372036854775808 ≤ i ∧ i ≤ 9223372036854775807) (b : Bool) : Calls Try.prog 21 #[.slice A l.length c, .int .i64 i, .bool b] w (Gives w (putA l i b)) := by
  refine (atticref02_Put.calls 1 A c l i b _ w hC hc (rput_f 1 l i b hb hl hi (Nat.le_refl _))).mono ?_
  rintro e w' ⟨v, rfl, ho, hb⟩
  exact gives_of ho hb
theorem get_c (hb : Bytes l) (hl : l.length < 140737488355328) (i : Int) (hi : -9223372036854775808 ≤ i ∧ i ≤ 9223372036854775807) : Calls Try.prog 22 #[.slice A l.length c, .int .i64 i] w fun e w' => e = .returned (.bool (decide (0 ≤ i) && bitN l i.toNat)) ∧ Below w.heap.size w w' := by
  refine (bits_Get.calls A c l i _ w hC hc (get_f l i hb hl hi)).mono ?_
  rintro e w' ⟨rfl, hd⟩
  exact ⟨rfl, drawn_below hd⟩
theorem rget_c (hb : Bytes l) (hl : l.length < 140737488355328) (i : Int) (hi : -9223372036854775808 ≤ i ∧ i ≤ 9223372036854775807) : Calls Try.prog 23 #[.slice A l.length c, .int .i64 i] w fun e w' => e = .returned (.bool (decide (0 ≤ i) && bitN l i.toNat)) ∧ Below w.heap.size w w' := by
  refine (atticref02_Get.calls A c l i _ w hC hc (rget_f l i hb hl hi)).mono ?_
  rintro e w' ⟨rfl, hd⟩
  exact ⟨rfl, drawn_below hd⟩
theorem count_c (hb : Bytes l) (hl : l.length < 140737488355328) : Calls Try.prog 24 #[.slice A l.length c] w fun e w' => e = .returned (.int .i64 (ones l (8 * l.length))) ∧ Below w.heap.size w w' :=
  bits_Count.calls (16 * l.length + 2) A c l _ w hC hc (count_w _ l hb hl (Nat.le_refl _))
theorem rcount_c (hb : Bytes l) (hl : l.length < 140737488355328) : Calls Try.prog 25 #[.slice A l.length c] w fun e w' => e = .returned (.int .i64 (ones l (8 * l.length))) ∧ Below w.heap.size w w' := by
  refine (atticref02_Count.calls (8 * l.length + 1) A c l _ w hC hc (rcount_f _ l hb hl (Nat.lt_succ_self _))).mono ?_
  rintro e w' ⟨rfl, hd⟩
  exact ⟨rfl, by first | exact drawn_below hd | exact hd⟩
include hC2 hc2
theorem few2 (m : Nat × Nat) : Calls Try.prog 11 #[.slice (some ⟨w.heap.size, 0, none⟩) 2 2] (w.alloc (.cells #[.slice A l.length c, .slice A2 l2.length c2] 22 m)) fun e w' => e = .returned (.bool (decide (l.length ≤ 3000 ∧ l2.length ≤ 3000))) ∧ Below w.heap.size w w' := by
  have hf : atticlaw02_few.f 3 [l, l2] = some (decide (l.length ≤ 3000 ∧ l2.length ≤ 3000)) := by
    unfold atticlaw02_few.f
    show atticlaw02_few.l0 3 [l, l2] 2 0 = _
    rw [atticlaw02_few.l0, if_pos (by decide), if_pos (by decide), if_pos (by simp), show wrap64 (0 + 1) = 1 from by decide +kernel]
    change (if ((l.length : Nat) : Int) > 3000 then some false else atticlaw02_few.l0 2 [l, l2] 2 1) = _
    by_cases h : l.length ≤ 3000
    · rw [if_neg (by omega), atticlaw02_few.l0, if_pos (by decide), if_pos (by decide), if_pos (by simp), show wrap64 (1 + 1) = 2 from by decide +kernel]
      change (if ((l2.length : Nat) : Int) > 3000 then some false else atticlaw02_few.l0 1 [l, l2] 2 2) = _
      by_cases h2 : l2.length ≤ 3000
      · rw [if_neg (by omega), decide_eq_true ⟨h, h2⟩]
        rfl
      · rw [if_pos (by omega), decide_eq_false (fun e => h2 e.2)]
    · rw [if_pos (by omega), decide_eq_false (fun e => h e.1)]
  refine (atticlaw02_few.calls 3 _ 2 [l, l2] _ _ (lit2 m hC hc hC2 hc2) (Nat.le_refl _) hf).mono ?_
  rintro e w' ⟨rfl, hd⟩
  exact ⟨rfl, ((Below.refl _ w).alloc (Nat.le_refl _) _).trans ((drawn_below hd).mono (by simp))⟩
end
end Go.Proofs.Ytifeimbamibkeaa.Pure
