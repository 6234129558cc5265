/- Unlike records, or places, have unlike sectors; for all records whose data are at most 5000 bytes. -/
import Derived.Test.YtglgndeoldgjbaaTakes
namespace Go.Proofs.Ytglgndeoldgjbaa.Pure
open Go.RowKit Go.Proofs.Ytglgndeoldgjbaa.PTwo Go.Proofs.YtglgndeoldgjbaaW.PrintWords Go.Proofs.YtglgndeoldgjbaaW.PrintLast Go.Proofs.YtglgndeoldgjbaaW.PrintMore

theorem apart_j0 (k : Nat) (x0 x1 : Int) (b : Bool) (a0 a1 a2 : Int) (l : List Int) (a4 b0 b1 b2 : Int) (m : List Int) (b4 : Int) (hl : Bytes l) (hm : Bytes m) (hk : 720 ≤ k) : atticlaw06_RecordApart.j0 k x0 x1 b a0 a1 a2 l a4 b0 b1 b2 m b4 = some true := by
  obtain ⟨k, rfl⟩ : ∃ j, k = j + 1 := ⟨k - 1, by omega⟩
  rw [atticlaw06_RecordApart.j0]
  by_cases hb : b = true
  · rw [if_pos hb, begun_f k (by omega), Option.bind_some]
  · rw [if_neg hb, bytes_f k x0 a0 a1 a2 l a4 hl (by omega), bytes_f k x1 b0 b1 b2 m b4 hm (by omega), Option.bind_some, Option.bind_some]
    by_cases h1 : (bytesA x0 a0 a1 a2 l a4).2 = 0
    · rw [if_pos h1]
      by_cases h2 : (bytesA x1 b0 b1 b2 m b4).2 = 0
      · rw [if_pos h2]
        have s1 := bytesA_zero hl h1
        have s2 := bytesA_zero hm h2
        rw [equal_f _ _ (says_bytes s1) (says_bytes s2), Option.bind_some, same_f _ _ _ _ _ _ _ _ _ _ hl hm]
        by_cases he : (bytesA x0 a0 a1 a2 l a4).1 = (bytesA x1 b0 b1 b2 m b4).1
        · rw [he] at s1
          obtain ⟨e1, e2, e3, e4, e5, e6⟩ := says_one s1 s2
          rw [if_pos e1, decide_eq_true he, decide_eq_true ⟨e2, e3, e4, e6, e5⟩]
          rfl
        · rw [decide_eq_false he]
          by_cases hx : x0 = x1
          · rw [if_pos hx, decide_eq_false (fun h => he (by rw [hx, h.1, h.2.1, h.2.2.1, h.2.2.2.1, h.2.2.2.2]))]
            rfl
          · rw [if_neg hx]
            rfl
      · rw [if_neg h2]
    · rw [if_neg h1]
theorem RecordApart : atticlaw06_RecordApart.Pure := by
  intro x0 x1 a0 a1 a2 l a4 b0 b1 b2 m b4 _ _ _ _ _ _ _ wl _ _ _ _ _ _ wm _
  have hl := bytes_wf wl
  have hm := bytes_wf wm
  refine ⟨800, ?_⟩
  unfold atticlaw06_RecordApart.f
  rw [begun_f 800 (by decide), Option.bind_some, if_pos rfl]
  by_cases h : (l.length : Int) > 5000
  · rw [if_pos h]
    exact apart_j0 _ _ _ _ _ _ _ _ _ _ _ _ _ _ hl hm (by decide)
  · rw [if_neg h]
    exact apart_j0 _ _ _ _ _ _ _ _ _ _ _ _ _ _ hl hm (by decide)
end Go.Proofs.Ytglgndeoldgjbaa.Pure
