/- The law ClassMore, over numbers alone: a shape with more pointers, or more data, has no lesser class; for all shapes and numbers. -/
import Derived.Test.YtgcgkhgmmphggaaPAllx8
import Derived.Test.YtgcgkhgmmphggaaShapes
import Derived.Laws.BitsAllLaws
import Derived.Laws.Bits64
namespace Go.Proofs.Ytgcgkhgmmphggaa.Pure
open Go.RowKit Go.Proofs.Ytgcgkhgmmphggaa.PAll Go.Proofs.YtgcgkhgmmphggaaW.PrintWords Go.Proofs.YtgcgkhgmmphggaaW.PrintLast Go.Proofs.YtgcgkhgmmphggaaW.PrintMore

theorem ofN_mono {m n : Int} (h : m ≤ n) : ((class_Of.ofN m).2 = 111 → (class_Of.ofN n).2 = 111) ∧ ((class_Of.ofN m).2 = 0 → (class_Of.ofN n).2 = 0 → (class_Of.ofN m).1 ≤ (class_Of.ofN n).1) := by
  unfold class_Of.ofN
  constructor
  · intro h1
    by_cases hm : m ≤ 1024
    · exfalso
      revert h1
      (repeat' split) <;> simp <;> omega
    · rw [if_neg (by omega), if_neg (by omega), if_neg (by omega), if_neg (by omega), if_neg (by omega), if_neg (by omega)]
  · intro h1 h2
    (repeat' split) <;> simp_all <;> omega
/-- What ClassMore says of two shapes. -/
theorem more_j3 (k : Nat) (a b c b' c' : Int) (hb : b ≤ b') (hc : c ≤ c') (h0 : chk a b c = 0) (hk : 1 ≤ k) :
    atticlaw11_ClassMore.j3 k a b c a b' c' = some true := by
  obtain ⟨k, rfl⟩ : ∃ m, k = m + 1 := ⟨k - 1, by omega⟩
  rw [atticlaw11_ClassMore.j3, of_w, of_w, live_true, if_pos h0]
  simp only [Option.bind_some, if_true]
  have hs : sizeN a b c = 16 + 8 * b + c := by unfold sizeN; rw [if_pos h0]
  by_cases h1 : chk a b' c' = 0
  · have hs' : sizeN a b' c' = 16 + 8 * b' + c' := by unfold sizeN; rw [if_pos h1]
    rw [if_pos h1]
    obtain ⟨m1, m2⟩ := ofN_mono (show sizeN a b c ≤ sizeN a b' c' by omega)
    by_cases e1 : (class_Of.ofN (sizeN a b c)).2 = 111
    · rw [if_pos e1, if_neg (by rw [m1 e1]; omega), if_neg (by rw [e1]; omega)]
    · rw [if_neg e1]
      by_cases e2 : (class_Of.ofN (sizeN a b c)).2 = 0
      · rw [if_pos e2]
        by_cases e3 : (class_Of.ofN (sizeN a b' c')).2 = 0
        · rw [if_pos e3, decide_eq_true (m2 e2 e3)]
        · rw [if_neg e3]
      · rw [if_neg e2]
  · have h110 : chk a b' c' = 110 := (chk_or a b' c').resolve_left h1
    rw [if_neg h1, h110]
    simp only []
    (repeat' split) <;> first | rfl | (exfalso; omega)
theorem more_bad (k : Nat) (a b c b' c' : Int) (h0 : chk a b c ≠ 0) (hk : 1 ≤ k) : atticlaw11_ClassMore.j3 k a b c a b' c' = some true := by
  obtain ⟨k, rfl⟩ : ∃ m, k = m + 1 := ⟨k - 1, by omega⟩
  have h110 : chk a b c = 110 := (chk_or a b c).resolve_left h0
  rw [atticlaw11_ClassMore.j3, of_w, of_w, live_true, if_neg h0, h110]
  simp only [Option.bind_some, if_true]
  rw [if_neg (by omega), if_neg (by omega)]
theorem more_any (k : Nat) (a b c b' c' : Int) (hb : 0 ≤ b → b ≤ 126 → b ≤ b') (hc : 0 ≤ c → c ≤ 1008 → c ≤ c') (hk : 1 ≤ k) : atticlaw11_ClassMore.j3 k a b c a b' c' = some true := by
  by_cases h0 : chk a b c = 0
  · have := chk_ok h0
    exact more_j3 k a b c b' c' (hb this.2.1.1 this.2.1.2) (hc this.2.2.1.1 this.2.2.1.2) h0 hk
  · exact more_bad k a b c b' c' h0 hk
theorem more_j1 (k : Nat) (a b c b' p : Int) (hp : 0 ≤ p ∧ p < 256) (hb : 0 ≤ b → b ≤ 126 → b ≤ b') (hk : 3 ≤ k) : atticlaw11_ClassMore.j1 k p a b c a b' c = some true := by
  obtain ⟨k, rfl⟩ : ∃ m, k = m + 1 + 1 := ⟨k - 2, by omega⟩
  rw [atticlaw11_ClassMore.j1]
  by_cases h1 : c ≥ 0
  · rw [if_pos h1, atticlaw11_ClassMore.j2]
    by_cases h2 : c ≤ 1008
    · rw [if_pos (by simpa using h2)]
      exact more_any k a b c b' _ hb (fun _ _ => by unfold wrap64; omega) (by omega)
    · rw [if_neg (by simpa using h2)]
      exact more_any k a b c b' _ hb (fun _ _ => by omega) (by omega)
  · rw [if_neg h1, atticlaw11_ClassMore.j2, if_neg (by decide)]
    exact more_any k a b c b' _ hb (fun _ _ => by omega) (by omega)
theorem ClassMore : atticlaw11_ClassMore.Pure := by
  intro a b c p q _ _ _ wp wq
  have hp : 0 ≤ p ∧ p < 256 := by
    simp [Lit.wf, IntKind.min, IntKind.max, IntKind.signed, IntKind.bits] at wp
    omega
  have hq : 0 ≤ q ∧ q < 256 := by
    simp [Lit.wf, IntKind.min, IntKind.max, IntKind.signed, IntKind.bits] at wq
    omega
  refine ⟨5, ?_⟩
  unfold atticlaw11_ClassMore.f
  by_cases h1 : b ≥ 0
  · rw [if_pos h1]
    show atticlaw11_ClassMore.j0 (4 + 1) _ _ _ _ _ _ _ _ _ = _
    rw [atticlaw11_ClassMore.j0]
    by_cases h2 : b ≤ 126
    · rw [if_pos (by simpa using h2)]
      exact more_j1 4 a b c _ q hq (fun _ _ => by unfold wrap64; omega) (by omega)
    · rw [if_neg (by simpa using h2)]
      exact more_j1 4 a b c _ q hq (fun _ _ => by omega) (by omega)
  · rw [if_neg h1]
    show atticlaw11_ClassMore.j0 (4 + 1) _ _ _ _ _ _ _ _ _ = _
    rw [atticlaw11_ClassMore.j0, if_neg (by decide)]
    exact more_j1 4 a b c _ q hq (fun _ _ => by omega) (by omega)
end Go.Proofs.Ytgcgkhgmmphggaa.Pure
