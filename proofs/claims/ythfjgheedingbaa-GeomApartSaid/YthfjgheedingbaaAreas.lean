/- The areas of a geometry's blocks: how many of the first k blocks lie in each; plain numbers. -/
import Derived.Test.YthfjgheedingbaaPureGeomWhere
namespace Go.Proofs.Ythfjgheedingbaa.Pure
set_option linter.unusedVariables false
set_option linter.unusedSimpArgs false
open Go.RowKit Go.Proofs.Ythfjgheedingbaa.PAll Go.Proofs.YthfjgheedingbaaW.PrintWords Go.Proofs.YthfjgheedingbaaW.PrintLast Go.Proofs.YthfjgheedingbaaW.PrintMore

/-- Where the areas begin. -/
def startsL (p1 p2 p3 p4 p5 p6 : Int) : List Int := [0, 2, p1, p2, p3, p4, p5, p6]
/-- How many of the first k blocks lie from lo up to hi. -/
def clip (k lo hi : Int) : Int := if k ≤ lo then 0 else if k ≤ hi then k - lo else hi - lo
def cntL (p1 p2 p3 p4 p5 p6 a k : Int) : List Int := [clip k 0 2, clip k 2 p1, clip k p1 p2, clip k p2 p3, clip k p3 p4, clip k p4 p5, clip k p5 p6, clip k p6 a]
structure Up (p1 p2 p3 p4 p5 p6 a : Int) : Prop where
  h1 : 2 ≤ p1
  h2 : p1 ≤ p2
  h3 : p2 ≤ p3
  h4 : p3 ≤ p4
  h5 : p4 ≤ p5
  h6 : p5 ≤ p6
  h7 : p6 ≤ a
  h8 : a ≤ 3000
theorem ar_eq (p1 p2 p3 p4 p5 p6 x : Int) (h0 : 0 ≤ x) : geom_Where.ar (startsL p1 p2 p3 p4 p5 p6) x 8 = if p6 ≤ x then 7 else if p5 ≤ x then 6 else if p4 ≤ x then 5 else if p3 ≤ x then 4 else if p2 ≤ x then 3 else if p1 ≤ x then 2 else if 2 ≤ x then 1 else 0 := by
  simp [geom_Where.ar, startsL, h0]
theorem area_lt {p1 p2 p3 p4 p5 p6 x : Int} : geom_Where.ar (startsL p1 p2 p3 p4 p5 p6) x 8 < 8 := by
  have := geom_Where.ar_lt (startsL p1 p2 p3 p4 p5 p6) x 8
  omega
set_option maxHeartbeats 4000000 in
theorem ar_mono {p1 p2 p3 p4 p5 p6 a x y : Int} (u : Up p1 p2 p3 p4 p5 p6 a) (h0 : 0 ≤ x) (h : x ≤ y) : geom_Where.ar (startsL p1 p2 p3 p4 p5 p6) x 8 ≤ geom_Where.ar (startsL p1 p2 p3 p4 p5 p6) y 8 := by
  obtain ⟨h1, h2, h3, h4, h5, h6, h7, h8⟩ := u
  rw [ar_eq _ _ _ _ _ _ _ h0, ar_eq _ _ _ _ _ _ _ (by omega)]
  split <;> (repeat' split) <;> omega
theorem clip_lo {k lo hi : Int} (h : lo ≤ hi) (q : k < lo) : clip (k + 1) lo hi = clip k lo hi := by unfold clip; rw [if_pos (by omega), if_pos (by omega)]
theorem clip_hi {k lo hi : Int} (h : lo ≤ hi) (q : hi ≤ k) : clip (k + 1) lo hi = clip k lo hi := by
  unfold clip
  (repeat' split) <;> omega
theorem clip_in {k lo hi : Int} (h : lo ≤ k) (q : k < hi) : clip k lo hi = k - lo := by
  unfold clip
  (repeat' split) <;> omega
theorem clip_one {k lo hi : Int} (h : lo ≤ k) (q : k < hi) : clip (k + 1) lo hi = k - lo + 1 := by
  unfold clip
  (repeat' split) <;> omega
set_option maxHeartbeats 4000000 in
theorem area_step {p1 p2 p3 p4 p5 p6 a k : Int} (u : Up p1 p2 p3 p4 p5 p6 a) (h0 : 0 ≤ k) (ha : k < a) (m : Nat) (hm : m = geom_Where.ar (startsL p1 p2 p3 p4 p5 p6) k 8) :
    k - (startsL p1 p2 p3 p4 p5 p6).getD m 0 = (cntL p1 p2 p3 p4 p5 p6 a k).getD m 0 ∧ cntL p1 p2 p3 p4 p5 p6 a (k + 1) = (cntL p1 p2 p3 p4 p5 p6 a k).set m (wrap64 ((cntL p1 p2 p3 p4 p5 p6 a k).getD m 0 + 1)) ∧ wrap64 (k - (startsL p1 p2 p3 p4 p5 p6).getD m 0) = (cntL p1 p2 p3 p4 p5 p6 a k).getD m 0 := by
  obtain ⟨h1, h2, h3, h4, h5, h6, h7, h8⟩ := u
  rw [ar_eq _ _ _ _ _ _ _ h0] at hm
  have key : k - (startsL p1 p2 p3 p4 p5 p6).getD m 0 = (cntL p1 p2 p3 p4 p5 p6 a k).getD m 0 ∧ (0 ≤ (cntL p1 p2 p3 p4 p5 p6 a k).getD m 0 ∧ (cntL p1 p2 p3 p4 p5 p6 a k).getD m 0 ≤ 3000) ∧ cntL p1 p2 p3 p4 p5 p6 a (k + 1) = (cntL p1 p2 p3 p4 p5 p6 a k).set m ((cntL p1 p2 p3 p4 p5 p6 a k).getD m 0 + 1) := by
    unfold cntL startsL
    repeat' split at hm
    all_goals
      subst hm
      simp only [List.getD_cons_zero, List.getD_cons_succ, List.set_cons_zero, List.set_cons_succ, List.cons.injEq, and_true]
      rw [clip_in (k := k) (by omega) (by omega)]
      refine ⟨by omega, by omega, ?_⟩
      refine ⟨?_, ?_, ?_, ?_, ?_, ?_, ?_, ?_⟩ <;> (first | exact clip_lo (by omega) (by omega) | exact clip_hi (by omega) (by omega) | exact clip_one (by omega) (by omega))
  obtain ⟨k1, k2, k3⟩ := key
  refine ⟨k1, ?_, ?_⟩
  · rw [show wrap64 ((cntL p1 p2 p3 p4 p5 p6 a k).getD m 0 + 1) = (cntL p1 p2 p3 p4 p5 p6 a k).getD m 0 + 1 by unfold wrap64; omega]
    exact k3
  · rw [← k1] at k2 ⊢
    unfold wrap64
    omega
theorem cnt_zero (p1 p2 p3 p4 p5 p6 a : Int) (u : Up p1 p2 p3 p4 p5 p6 a) : cntL p1 p2 p3 p4 p5 p6 a 0 = [0, 0, 0, 0, 0, 0, 0, 0] := by
  obtain ⟨h1, h2, h3, h4, h5, h6, h7, h8⟩ := u
  unfold cntL clip
  rw [if_pos (by omega), if_pos (by omega), if_pos (by omega), if_pos (by omega), if_pos (by omega), if_pos (by omega), if_pos (by omega), if_pos (by omega)]
theorem cnt_all (p1 p2 p3 p4 p5 p6 a : Int) (u : Up p1 p2 p3 p4 p5 p6 a) : cntL p1 p2 p3 p4 p5 p6 a a = [2, p1 - 2, p2 - p1, p3 - p2, p4 - p3, p5 - p4, p6 - p5, a - p6] := by
  obtain ⟨h1, h2, h3, h4, h5, h6, h7, h8⟩ := u
  have hc : ∀ lo hi : Int, lo ≤ hi → hi ≤ a → clip a lo hi = hi - lo := by
    intro lo hi q1 q2
    unfold clip
    repeat' split
    all_goals omega
  unfold cntL
  rw [hc 0 2 (by omega) (by omega), hc 2 p1 (by omega) (by omega), hc p1 p2 (by omega) (by omega), hc p2 p3 (by omega) (by omega), hc p3 p4 (by omega) (by omega), hc p4 p5 (by omega) (by omega), hc p5 p6 (by omega) (by omega), hc p6 a (by omega) (by omega)]
  simp
theorem cnt_length (p1 p2 p3 p4 p5 p6 a k : Int) : (cntL p1 p2 p3 p4 p5 p6 a k).length = 8 := rfl
theorem up_of {a b c d : Int} {p1 p2 p3 p4 p5 p6 : Int} (h : IsPlan a b c d (p1, p2, p3, p4, p5, p6)) : Up p1 p2 p3 p4 p5 p6 a := by
  obtain ⟨hb, hc, hd, q1, q2, q3, q4, q5, q6, ha⟩ := h
  simp only [] at q1 q2 q3 q4 q5 q6 ha
  constructor <;> omega
theorem where_in {a b c d : Int} {p1 p2 p3 p4 p5 p6 : Int} (h : geom_Of.f a b c d = some (p1, p2, p3, p4, p5, p6, 0)) (k : Int) (h0 : 0 ≤ k) (hk : k < a) :
    geom_Where.f a b c d k = some (((geom_Where.ar (startsL p1 p2 p3 p4 p5 p6) k 8 : Nat) : Int), (cntL p1 p2 p3 p4 p5 p6 a k).getD (geom_Where.ar (startsL p1 p2 p3 p4 p5 p6) k 8) 0, 0) := by
  have hp := of_ok h rfl
  simp only [] at hp
  have u := up_of hp
  have := u.h8
  have hw : wrap64 (a - 1) = a - 1 := by unfold wrap64; have := u.h1; have := u.h2; have := u.h3; have := u.h4; have := u.h5; have := u.h6; have := u.h7; omega
  unfold geom_Where.f
  rw [h]
  simp only [Option.bind_some]
  rw [if_pos trivial, hw, if_pos (by omega), ← (area_step u h0 hk _ rfl).2.2]
  rfl
end Go.Proofs.Ythfjgheedingbaa.Pure
