-- Written for this claim by a program of this session's own: each Go function that the law uses, as a plain Lean function, with the proof that the machine's call comes to it.
import Derived.Test.YtifeimbamibkeaaPAllx0
import Derived.Test.YtifeimbamibkeaaPAllx11
import Derived.RangeFuncBox
import Derived.RangeFuncFrom
import Derived.RangeFuncMany
import Derived.RangeFuncLeaves
import Derived.Shelf.Abstract
import Derived.OwnWalkIn
import Derived.TacticsInMore
import Derived.LoopNIn
import Derived.LoopIn
import Derived.BigFrameIn
namespace Go.Proofs.Ytifeimbamibkeaa.PAll
open Go.RowKit Go.Proofs.YtifeimbamibkeaaW.PrintWords Go.Proofs.YtifeimbamibkeaaW.PrintLast Go.Proofs.YtifeimbamibkeaaW.PrintMore
attribute [local go_sem] max2_int min2_int max_two min_two max_three min_three max_four min_four   -- for this text's walks alone
set_option linter.unusedVariables false
set_option linter.unusedSimpArgs false

attribute [local go_sem] setCell_drewN_
/-! ### bits_Sub: function 36 -/
-- BY HAND
def bits_Sub.f (l0 : List Int) (l1 : List Int) : Option (List Int × Int) := if l0.length ≤ 281474976710656 then (if l0.length = l1.length then some (List.zipWith (fun x y => Go.bits .andNot .u8 x y) l0 l1, 0) else some ([], 20)) else none
theorem bits_Sub.op (x y : Int) (W : World) : Calls Try.prog 47 #[.int .u8 x, .int .u8 y] W fun e w' => e = .returned (.int .u8 (Go.bits .andNot .u8 x y)) ∧ w' = W := by
  go_enter Try.func47, Try.ntmps47
  go_wp2
  go_ret
  exact ⟨rfl, rfl⟩
set_option maxHeartbeats 2000000 in
theorem bits_Sub.calls (A0 : Option Addr) (c0 : Nat) (l0 : List Int) (A1 : Option Addr) (c1 : Nat) (l1 : List Int) (r1 : List Int) (r2 : Int) (w : World) (hr0 : Kd.C (Kd.int .u8) w A0 l0.length l0) (hc0 : l0.length ≤ c0) (hr1 : Kd.C (Kd.int .u8) w A1 l1.length l1) (hc1 : l1.length ≤ c1) (h : bits_Sub.f l0 l1 = some (r1, r2)) :
    Calls Try.prog 36 #[.slice A0 l0.length c0, .slice A1 l1.length c1] w fun e w' => ∃ v0_ : Value, e = .returned (.tuple #[v0_, .int .i64 r2]) ∧ Kd.R (Kd.int .u8) 5 w' w.heap.size (fun _ => True) v0_ r1 ∧ Below w.heap.size w w' := by
  unfold bits_Sub.f at h
  by_cases hlim : l0.length ≤ 281474976710656
  · rw [if_pos hlim] at h
    by_cases hl : l0.length = l1.length
    · rw [if_pos hl] at h
      obtain ⟨rfl, rfl⟩ : List.zipWith (fun x y => Go.bits .andNot .u8 x y) l0 l1 = r1 ∧ (0 : Int) = r2 := by simpa using h
      have HC := Aside0.mk (bits_And.joins 47 (fun x y => Go.bits .andNot .u8 x y) bits_Sub.op (enters_of Try.func47 (by kernel_rfl) rfl) A0 c0 l0 A1 c1 l1 w hr0 hc0 hr1 hc1 hl hlim)
      clear hr0 hc0 hr1 hc1 h hl hlim
      go_enter Try.func36, Try.ntmps36
      go_wp2_with fail
      refine HC.out.mono ?_
      rintro e w1 ⟨v, rfl, ho, hb⟩
      have HO := Aside0.mk ho
      have HB := Aside0.mk hb
      clear ho hb
      go_wp2
      go_ret2
      exact ⟨_, rfl, HO.out, HB.out⟩
    · rw [if_neg hl] at h
      obtain ⟨rfl, rfl⟩ : ([] : List Int) = r1 ∧ (20 : Int) = r2 := by simpa using h
      have HC := Aside0.mk (bits_And.joins_not 47 A0 c0 l0 A1 c1 l1 w hl)
      clear hr0 hc0 hr1 hc1 h hl hlim
      go_enter Try.func36, Try.ntmps36
      go_wp2_with fail
      refine HC.out.mono ?_
      rintro e w1 ⟨rfl, rfl⟩
      go_wp2
      go_ret2
      exact ⟨_, rfl, Kd.R_nil _ _ _ _ _, Below.refl _ _⟩
  · rw [if_neg hlim] at h
    cases h


end Go.Proofs.Ytifeimbamibkeaa.PAll
