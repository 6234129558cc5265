-- Written for this claim by a program of this session's own: each Go function that the law uses, as a plain Lean function, with the proof that the machine's call comes to it.
import Derived.Test.YthfjgheedingbaaPAllx0
import Derived.Test.YthfjgheedingbaaPAllx2
namespace Go.Proofs.Ythfjgheedingbaa.PAll
open Go.RowKit Go.Proofs.YthfjgheedingbaaW.PrintWords Go.Proofs.YthfjgheedingbaaW.PrintLast Go.Proofs.YthfjgheedingbaaW.PrintMore
attribute [local go_sem] max2_int min2_int max_two min_two max_three min_three max_four min_four   -- for this text's walks alone
set_option linter.unusedVariables false
set_option linter.unusedSimpArgs false

attribute [local go_sem] setCell_drewN_
/-! ### geom_Where: function 12 -/
-- BY HAND
/-- The last one of the first k that begins no later. -/
def geom_Where.ar (bs : List Int) (x : Int) : Nat → Nat
  | 0 => 0
  | k + 1 => if x ≥ bs.getD k 0 then k else geom_Where.ar bs x k
theorem geom_Where.ar_lt (bs : List Int) (x : Int) : ∀ k, geom_Where.ar bs x k ≤ k - 1
  | 0 => Nat.le_refl _
  | k + 1 => by
    unfold geom_Where.ar
    have := geom_Where.ar_lt bs x k
    split <;> omega
theorem geom_Where.ar_yes {bs : List Int} {x : Int} {k : Nat} (h : x ≥ bs.getD k 0) : geom_Where.ar bs x (k + 1) = k := by unfold geom_Where.ar; rw [if_pos h]
theorem geom_Where.ar_no {bs : List Int} {x : Int} {k : Nat} (h : ¬ x ≥ bs.getD k 0) : geom_Where.ar bs x (k + 1) = geom_Where.ar bs x k := by rw [geom_Where.ar, if_neg h]
def geom_Where.f (a0_0 : Int) (a0_1 : Int) (a0_2 : Int) (a0_3 : Int) (a1 : Int) : Option (Int × Int × Int) := (geom_Of.f a0_0 a0_1 a0_2 a0_3).bind fun b => if b.2.2.2.2.2.2 = 0 then (if 0 ≤ a1 ∧ a1 ≤ wrap64 (a0_0 - 1) then some ((geom_Where.ar [0, 2, b.1, b.2.1, b.2.2.1, b.2.2.2.1, b.2.2.2.2.1, b.2.2.2.2.2.1] a1 8 : Nat), wrap64 (a1 - [0, 2, b.1, b.2.1, b.2.2.1, b.2.2.2.1, b.2.2.2.2.1, b.2.2.2.2.2.1].getD (geom_Where.ar [0, 2, b.1, b.2.1, b.2.2.1, b.2.2.2.1, b.2.2.2.2.1, b.2.2.2.2.2.1] a1 8) 0), 0) else some (0, 0, 1)) else some (0, 0, b.2.2.2.2.2.2)
set_option maxRecDepth 100000 in
set_option maxHeartbeats 4000000 in
theorem geom_Where.calls (a0_0 : Int) (a0_1 : Int) (a0_2 : Int) (a0_3 : Int) (a1 : Int) (r1 : Int) (r2 : Int) (r3 : Int) (w : World) (h : geom_Where.f a0_0 a0_1 a0_2 a0_3 a1 = some (r1, r2, r3)) :
    Calls Try.prog 12 #[.agg #[.int .i64 a0_0, .int .i64 a0_1, .int .i64 a0_2, .int .i64 a0_3], .int .i64 a1] w fun e w' => e = .returned (.tuple #[.int .i64 r1, .int .i64 r2, .int .i64 r3]) ∧ Below w.heap.size w w' := by
  unfold geom_Where.f at h
  obtain ⟨⟨p1, p2, p3, p4, p5, p6, pe⟩, hO, h⟩ := Option.bind_eq_some_iff.1 h
  have HO := Aside0.mk hO
  have H := Aside0.mk h
  clear hO h
  have hu23 := Try.underlying23
  go_enter Try.func12, Try.ntmps12
  go_wp2_with fail
  refine (geom_Of.calls a0_0 a0_1 a0_2 a0_3 _ _ _ _ _ _ _ _ HO.out).mono ?_
  rintro e w1 ⟨rfl, hb⟩
  have hz : w.heap.size < w1.heap.size := by have := hb.size; simp at this; omega
  have hc0 : w1.cell? ⟨w.heap.size, 0, none⟩ = some (.int .i64 a0_0) := by
    rw [hb.cell (p := ⟨w.heap.size, 0, none⟩) (by simp)]
    simp [go_sem]
  have HB := Aside0.mk (Below.trans ((Below.refl w.heap.size w).alloc (Nat.le_refl _) (.cells #[.int .i64 a0_0, .int .i64 a0_1, .int .i64 a0_2, .int .i64 a0_3] 23)) (hb.mono (by simp)))
  clear hb
  have H2 := H.out
  clear H HO
  by_cases h0 : pe = 0
  · subst h0
    rw [if_pos rfl] at H2
    by_cases hr : 0 ≤ a1 ∧ a1 ≤ wrap64 (a0_0 - 1)
    · rw [if_pos hr] at H2
      have H3 := Aside0.mk H2
      have hw : geom_within.f a1 0 (wrap64 (a0_0 - 1)) = some true := by unfold geom_within.f; rw [if_pos hr.1]; simp [hr.2]
      have HW := Aside0.mk hw
      clear H2 hw hr
      go_wp2_with fail
      refine (geom_within.calls _ _ _ _ _ HW.out).mono ?_
      rintro e w2 ⟨rfl, ⟨nd, rfl⟩⟩
      go_wp2_with fail
      have ix := fun (w : World) => (show ((Instr.index 35 (.agg #[.int .i64 0, .int .i64 2, .int .i64 p1, .int .i64 p2, .int .i64 p3, .int .i64 p4, .int .i64 p5, .int .i64 p6]) (.int .i64 0)).run Try.prog w = .ok (.int .i64 0) w) ∧ ((Instr.index 35 (.agg #[.int .i64 0, .int .i64 2, .int .i64 p1, .int .i64 p2, .int .i64 p3, .int .i64 p4, .int .i64 p5, .int .i64 p6]) (.int .i64 1)).run Try.prog w = .ok (.int .i64 2) w) ∧ ((Instr.index 35 (.agg #[.int .i64 0, .int .i64 2, .int .i64 p1, .int .i64 p2, .int .i64 p3, .int .i64 p4, .int .i64 p5, .int .i64 p6]) (.int .i64 2)).run Try.prog w = .ok (.int .i64 p1) w) ∧ ((Instr.index 35 (.agg #[.int .i64 0, .int .i64 2, .int .i64 p1, .int .i64 p2, .int .i64 p3, .int .i64 p4, .int .i64 p5, .int .i64 p6]) (.int .i64 3)).run Try.prog w = .ok (.int .i64 p2) w) ∧ ((Instr.index 35 (.agg #[.int .i64 0, .int .i64 2, .int .i64 p1, .int .i64 p2, .int .i64 p3, .int .i64 p4, .int .i64 p5, .int .i64 p6]) (.int .i64 4)).run Try.prog w = .ok (.int .i64 p3) w) ∧ ((Instr.index 35 (.agg #[.int .i64 0, .int .i64 2, .int .i64 p1, .int .i64 p2, .int .i64 p3, .int .i64 p4, .int .i64 p5, .int .i64 p6]) (.int .i64 5)).run Try.prog w = .ok (.int .i64 p4) w) ∧ ((Instr.index 35 (.agg #[.int .i64 0, .int .i64 2, .int .i64 p1, .int .i64 p2, .int .i64 p3, .int .i64 p4, .int .i64 p5, .int .i64 p6]) (.int .i64 6)).run Try.prog w = .ok (.int .i64 p5) w) ∧ ((Instr.index 35 (.agg #[.int .i64 0, .int .i64 2, .int .i64 p1, .int .i64 p2, .int .i64 p3, .int .i64 p4, .int .i64 p5, .int .i64 p6]) (.int .i64 7)).run Try.prog w = .ok (.int .i64 p6) w) from ⟨by kernel_rfl, by kernel_rfl, by kernel_rfl, by kernel_rfl, by kernel_rfl, by kernel_rfl, by kernel_rfl, by kernel_rfl⟩)
      obtain ⟨bs, hbs⟩ : ∃ bs : List Int, bs = [0, 2, p1, p2, p3, p4, p5, p6] := ⟨_, rfl⟩
      have HBS := Aside0.mk hbs
      rw [← hbs] at H3
      clear hbs
      go_loop [10, 11, 12, 43] (fun v x y i => ∃ k : Nat, k ≤ 8 ∧ i = .int .i64 k ∧ v = .int .i64 (geom_Where.ar bs a1 k : Nat)) (fun _ _ _ i => 8 - (intOf i).toNat)
      case atStart => exact ⟨0, by omega, rfl, rfl⟩
      case round =>
        obtain ⟨k, hk, rfl, rfl⟩ := hrel
        by_cases hlt : k < 8
        · have hk8 : k = 0 ∨ k = 1 ∨ k = 2 ∨ k = 3 ∨ k = 4 ∨ k = 5 ∨ k = 6 ∨ k = 7 := by omega
          rcases hk8 with rfl | rfl | rfl | rfl | rfl | rfl | rfl | rfl
          · have i0 := fun w => (ix w).1
            clear ix
            go_wp2
            all_goals
              go_round
              case rel =>
                refine ⟨1, by omega, rfl, ?_⟩
                first
                  | (have h_ : a1 ≥ bs.getD 0 0 := (by rw [HBS.out]; simp; omega)
                     have e_ : geom_Where.ar bs a1 1 = 0 := geom_Where.ar_yes h_
                     rw [e_]; try rfl)
                  | (have h_ : ¬ a1 ≥ bs.getD 0 0 := (by rw [HBS.out]; simp; omega)
                     have e_ : geom_Where.ar bs a1 1 = geom_Where.ar bs a1 0 := geom_Where.ar_no h_
                     rw [e_])
              case measure => simp [intOf]
          · have i0 := fun w => (ix w).2.1
            clear ix
            go_wp2
            all_goals
              go_round
              case rel =>
                refine ⟨2, by omega, rfl, ?_⟩
                first
                  | (have h_ : a1 ≥ bs.getD 1 0 := (by rw [HBS.out]; simp; omega)
                     have e_ : geom_Where.ar bs a1 2 = 1 := geom_Where.ar_yes h_
                     rw [e_]; try rfl)
                  | (have h_ : ¬ a1 ≥ bs.getD 1 0 := (by rw [HBS.out]; simp; omega)
                     have e_ : geom_Where.ar bs a1 2 = geom_Where.ar bs a1 1 := geom_Where.ar_no h_
                     rw [e_])
              case measure => simp [intOf]
          · have i0 := fun w => (ix w).2.2.1
            clear ix
            go_wp2
            all_goals
              go_round
              case rel =>
                refine ⟨3, by omega, rfl, ?_⟩
                first
                  | (have h_ : a1 ≥ bs.getD 2 0 := (by rw [HBS.out]; simp; omega)
                     have e_ : geom_Where.ar bs a1 3 = 2 := geom_Where.ar_yes h_
                     rw [e_]; try rfl)
                  | (have h_ : ¬ a1 ≥ bs.getD 2 0 := (by rw [HBS.out]; simp; omega)
                     have e_ : geom_Where.ar bs a1 3 = geom_Where.ar bs a1 2 := geom_Where.ar_no h_
                     rw [e_])
              case measure => simp [intOf]
          · have i0 := fun w => (ix w).2.2.2.1
            clear ix
            go_wp2
            all_goals
              go_round
              case rel =>
                refine ⟨4, by omega, rfl, ?_⟩
                first
                  | (have h_ : a1 ≥ bs.getD 3 0 := (by rw [HBS.out]; simp; omega)
                     have e_ : geom_Where.ar bs a1 4 = 3 := geom_Where.ar_yes h_
                     rw [e_]; try rfl)
                  | (have h_ : ¬ a1 ≥ bs.getD 3 0 := (by rw [HBS.out]; simp; omega)
                     have e_ : geom_Where.ar bs a1 4 = geom_Where.ar bs a1 3 := geom_Where.ar_no h_
                     rw [e_])
              case measure => simp [intOf]
          · have i0 := fun w => (ix w).2.2.2.2.1
            clear ix
            go_wp2
            all_goals
              go_round
              case rel =>
                refine ⟨5, by omega, rfl, ?_⟩
                first
                  | (have h_ : a1 ≥ bs.getD 4 0 := (by rw [HBS.out]; simp; omega)
                     have e_ : geom_Where.ar bs a1 5 = 4 := geom_Where.ar_yes h_
                     rw [e_]; try rfl)
                  | (have h_ : ¬ a1 ≥ bs.getD 4 0 := (by rw [HBS.out]; simp; omega)
                     have e_ : geom_Where.ar bs a1 5 = geom_Where.ar bs a1 4 := geom_Where.ar_no h_
                     rw [e_])
              case measure => simp [intOf]
          · have i0 := fun w => (ix w).2.2.2.2.2.1
            clear ix
            go_wp2
            all_goals
              go_round
              case rel =>
                refine ⟨6, by omega, rfl, ?_⟩
                first
                  | (have h_ : a1 ≥ bs.getD 5 0 := (by rw [HBS.out]; simp; omega)
                     have e_ : geom_Where.ar bs a1 6 = 5 := geom_Where.ar_yes h_
                     rw [e_]; try rfl)
                  | (have h_ : ¬ a1 ≥ bs.getD 5 0 := (by rw [HBS.out]; simp; omega)
                     have e_ : geom_Where.ar bs a1 6 = geom_Where.ar bs a1 5 := geom_Where.ar_no h_
                     rw [e_])
              case measure => simp [intOf]
          · have i0 := fun w => (ix w).2.2.2.2.2.2.1
            clear ix
            go_wp2
            all_goals
              go_round
              case rel =>
                refine ⟨7, by omega, rfl, ?_⟩
                first
                  | (have h_ : a1 ≥ bs.getD 6 0 := (by rw [HBS.out]; simp; omega)
                     have e_ : geom_Where.ar bs a1 7 = 6 := geom_Where.ar_yes h_
                     rw [e_]; try rfl)
                  | (have h_ : ¬ a1 ≥ bs.getD 6 0 := (by rw [HBS.out]; simp; omega)
                     have e_ : geom_Where.ar bs a1 7 = geom_Where.ar bs a1 6 := geom_Where.ar_no h_
                     rw [e_])
              case measure => simp [intOf]
          · have i0 := fun w => (ix w).2.2.2.2.2.2.2
            clear ix
            go_wp2
            all_goals
              go_round
              case rel =>
                refine ⟨8, by omega, rfl, ?_⟩
                first
                  | (have h_ : a1 ≥ bs.getD 7 0 := (by rw [HBS.out]; simp; omega)
                     have e_ : geom_Where.ar bs a1 8 = 7 := geom_Where.ar_yes h_
                     rw [e_]; try rfl)
                  | (have h_ : ¬ a1 ≥ bs.getD 7 0 := (by rw [HBS.out]; simp; omega)
                     have e_ : geom_Where.ar bs a1 8 = geom_Where.ar bs a1 7 := geom_Where.ar_no h_
                     rw [e_])
              case measure => simp [intOf]
        · obtain rfl : k = 8 := by omega
          have hm := geom_Where.ar_lt bs a1 8
          obtain ⟨m, hm2⟩ : ∃ m, m = geom_Where.ar bs a1 8 := ⟨_, rfl⟩
          rw [← hm2] at H3 hm ⊢
          clear ix hm2
          have hm8 : m = 0 ∨ m = 1 ∨ m = 2 ∨ m = 3 ∨ m = 4 ∨ m = 5 ∨ m = 6 ∨ m = 7 := by omega
          have hu35 := Try.underlying35
          rw [HBS.out] at H3
          rcases hm8 with rfl | rfl | rfl | rfl | rfl | rfl | rfl | rfl
          all_goals
            obtain ⟨rfl, rfl, rfl⟩ : _ ∧ _ ∧ _ := by have := H3.out; simpa using this
            clear H3
            go_wp2_with fail
            go_quiet (fail)
            go_wp2
            go_ret3
            exact ⟨by first | rfl | simp, pw_below_drewN (below_alloc (pw_below_drewN (below_alloc HB.out _) _) _) _⟩
    · rw [if_neg hr] at H2
      have H3 := Aside0.mk H2
      have hw : geom_within.f a1 0 (wrap64 (a0_0 - 1)) = some false := by
        unfold geom_within.f
        by_cases h1 : a1 ≥ 0
        · rw [if_pos h1]
          have : ¬ a1 ≤ wrap64 (a0_0 - 1) := fun h2 => hr ⟨h1, h2⟩
          simp [this]
        · rw [if_neg h1]
      have HW := Aside0.mk hw
      clear H2 hw hr
      obtain ⟨rfl, rfl, rfl⟩ : _ ∧ _ ∧ _ := by have := H3.out; simpa using this
      clear H3
      go_wp2_with fail
      refine (geom_within.calls _ _ _ _ _ HW.out).mono ?_
      rintro e w2 ⟨rfl, ⟨nd, rfl⟩⟩
      go_wp2
      go_ret3
      exact ⟨rfl, pw_below_drewN (below_alloc HB.out _) _⟩
  · rw [if_neg h0] at H2
    have H3 := Aside0.mk H2
    have hp : (pe != 0) = true := by rw [bne_iff_ne]; exact h0
    clear H2
    obtain ⟨rfl, rfl, rfl⟩ : _ ∧ _ ∧ _ := by have := H3.out; simpa using this
    clear H3
    go_wp2
    go_ret3
    exact ⟨rfl, below_alloc HB.out _⟩


end Go.Proofs.Ythfjgheedingbaa.PAll
