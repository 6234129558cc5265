/- Where entries, marks and slots stand, as plain numbers: their bytes are apart, and lie in their areas. -/
import Derived.Test.YthfjgheedingbaaPlace
namespace Go.Proofs.Ythfjgheedingbaa.Pure
open Go.RowKit Go.Proofs.Ythfjgheedingbaa.PAll Go.Proofs.YthfjgheedingbaaW.PrintWords Go.Proofs.YthfjgheedingbaaW.PrintLast Go.Proofs.YthfjgheedingbaaW.PrintMore
set_option linter.unusedVariables false
set_option linter.unusedSimpArgs false

theorem laid_true {M : Nat → Bool} {A m B : Nat} : laid M A m B = true ↔ M B = true ∨ (A ≤ B ∧ B < A + m) := by
  unfold laid
  simp
theorem laid_add (M : Nat → Bool) (A m k : Nat) : laid (laid M A m) (A + m) k = laid M A (m + k) := by
  funext B
  rw [Bool.eq_iff_iff, laid_true, laid_true, laid_true]
  constructor
  · rintro ((h | h) | h)
    · exact .inl h
    · exact .inr (by omega)
    · exact .inr (by omega)
  · rintro (h | h)
    · exact .inl (.inl h)
    · by_cases q : B < A + m
      · exact .inl (.inr (by omega))
      · exact .inr (by omega)
theorem within_yes {x lo hi : Int} (h1 : lo ≤ x) (h2 : x ≤ hi) : geom_within.f x lo hi = some true := by
  unfold geom_within.f
  rw [if_pos (by omega), decide_eq_true h2]
theorem at_eq (P e z : Nat) (hP : P ≤ 2048) (he : e ≤ 255) (hz : z ≤ 1024) : geom_at.f (P : Int) (e : Int) (z : Int) = some (((P + e * z / 256 : Nat) : Int), ((e * z % 256 : Nat) : Int)) := by
  unfold geom_at.f
  rw [within_yes (by omega) (by omega)]
  simp only [Option.bind_some, if_true]
  rw [within_yes (by omega) (by omega)]
  simp only [Option.bind_some, if_true]
  have hm : e * z ≤ 255 * 1024 := Nat.mul_le_mul he hz
  obtain ⟨n, hn⟩ : ∃ n, n = e * z := ⟨_, rfl⟩
  have hc : wrap64 ((e : Int) * (z : Int)) = (n : Int) := by
    rw [hn, ← Int.natCast_mul, ← hn]
    unfold wrap64
    omega
  rw [hc, ← hn, Int.tdiv_eq_ediv_of_nonneg (by omega), Int.tmod_eq_emod_of_nonneg (by omega)]
  have hd : wrap64 ((n : Int) / 256) = (n : Int) / 256 := by unfold wrap64; omega
  rw [hd, show wrap64 ((P : Int) + (n : Int) / 256) = ((P + n / 256 : Nat) : Int) by unfold wrap64; omega, show ((n : Int) % 256) = ((n % 256 : Nat) : Int) by omega]
def slotB (c : Nat) : Nat := 2 ^ (c + 5)
def slotN (c : Nat) : Nat := 2 ^ (5 - c)
theorem slot_facts {c : Nat} (h : c < 6) : geom_SlotBytes.f (c : Int) = some ((slotB c : Nat) : Int) ∧ geom_Slots.f (c : Int) = some ((slotN c : Nat) : Int) ∧ slotN c * slotB c = 1024 ∧ slotB c ≤ 1024 ∧ slotN c ≤ 32 := by
  have hc : c = 0 ∨ c = 1 ∨ c = 2 ∨ c = 3 ∨ c = 4 ∨ c = 5 := by omega
  rcases hc with rfl | rfl | rfl | rfl | rfl | rfl <;> decide +kernel
theorem slot_le {c s : Nat} (h : c < 6) (hs : s < slotN c) : s * slotB c + slotB c ≤ 1024 := by
  have h1 := (slot_facts h).2.2.1
  have h2 : (s + 1) * slotB c ≤ slotN c * slotB c := Nat.mul_le_mul hs (Nat.le_refl _)
  rw [Nat.add_mul, Nat.one_mul] at h2
  omega
theorem slotAt_eq (p1 p2 p3 p4 p6 : Int) (P5 e c s : Nat) (hP : P5 ≤ 2048) (he : e ≤ 255) (hc : c < 6) (hs : s < slotN c) :
    geom_SlotAt.f p1 p2 p3 p4 (P5 : Int) p6 (e : Int) (c : Int) (s : Int) = some (((P5 + 4 * e + s * slotB c / 256 : Nat) : Int), ((s * slotB c % 256 : Nat) : Int)) := by
  obtain ⟨h1, h2, h3, h4, h5⟩ := slot_facts hc
  have h6 := slot_le hc hs
  unfold geom_SlotAt.f geom_Extent.f
  rw [show (1024 : Int) = ((1024 : Nat) : Int) from rfl, at_eq P5 e 1024 hP he (by omega), h1, h2]
  simp only [Option.bind_some]
  rw [if_neg (by omega), show wrap64 (((slotN c : Nat) : Int) - 1) = ((slotN c : Nat) : Int) - 1 by unfold wrap64; omega, within_yes (by omega) (by omega)]
  simp only [Option.bind_some, if_true]
  obtain ⟨n, hn⟩ : ∃ n, n = s * slotB c := ⟨_, rfl⟩
  have hcc : wrap64 ((s : Int) * ((slotB c : Nat) : Int)) = (n : Int) := by
    rw [hn, ← Int.natCast_mul, ← hn]
    unfold wrap64
    omega
  rw [hcc, ← hn, Int.tdiv_eq_ediv_of_nonneg (by omega), Int.tmod_eq_emod_of_nonneg (by omega)]
  have hd : wrap64 ((n : Int) / 256) = (n : Int) / 256 := by unfold wrap64; omega
  have hx : e * 1024 / 256 = 4 * e := by omega
  rw [hd, hx, show wrap64 (((P5 + 4 * e : Nat) : Int) + (n : Int) / 256) = ((P5 + 4 * e + n / 256 : Nat) : Int) by unfold wrap64; omega, show ((n : Int) % 256) = ((n % 256 : Nat) : Int) by omega]
/-- How the areas lie. -/
structure Lay (P2 P3 P4 P5 P6 d : Nat) (a : Int) : Prop where
  h2 : P2 * 256 + 8 * d ≤ P3 * 256
  h3 : P3 * 256 + 4 * d ≤ P4 * 256
  h4 : P4 ≤ P5
  h5 : P6 = P5 + 4 * d
  h6 : P6 ≤ 2048
  h7 : (P6 : Int) ≤ a
  h8 : d ≤ 256
  h9 : 1 ≤ d
  h0 : 3 ≤ P2
theorem lay_of {a b c d p1 p2 p3 p4 p5 p6 : Int} (h : IsPlan a b c d (p1, p2, p3, p4, p5, p6)) : ∃ P2 P3 P4 P5 P6 D : Nat, p2 = P2 ∧ p3 = P3 ∧ p4 = P4 ∧ p5 = P5 ∧ p6 = P6 ∧ d = D ∧ p1 = 3 ∧ Lay P2 P3 P4 P5 P6 D a := by
  obtain ⟨hb, hc, hd, q1, q2, q3, q4, q5, q6, ha⟩ := h
  simp only [] at q1 q2 q3 q4 q5 q6 ha
  refine ⟨p2.toNat, p3.toNat, p4.toNat, p5.toNat, p6.toNat, d.toNat, by omega, by omega, by omega, by omega, by omega, by omega, q1, ?_⟩
  constructor <;> omega
theorem ar_of {P2 P3 P4 P5 P6 d : Nat} {a p1 : Int} (L : Lay P2 P3 P4 P5 P6 d a) (h1 : p1 = 3) (X : Nat) :
    (P2 ≤ X → X < P3 → geom_Where.ar (startsL p1 P2 P3 P4 P5 P6) X 8 = 3) ∧ (P3 ≤ X → X < P4 → geom_Where.ar (startsL p1 P2 P3 P4 P5 P6) X 8 = 4) ∧ (P5 ≤ X → X < P6 → geom_Where.ar (startsL p1 P2 P3 P4 P5 P6) X 8 = 6) := by
  obtain ⟨q2, q3, q4, q5, q6, q7, q8, q9, q0⟩ := L
  rw [ar_eq _ _ _ _ _ _ _ (by omega)]
  refine ⟨fun x y => ?_, fun x y => ?_, fun x y => ?_⟩
  · rw [if_neg (by omega), if_neg (by omega), if_neg (by omega), if_neg (by omega), if_pos (by omega)]
  · rw [if_neg (by omega), if_neg (by omega), if_neg (by omega), if_pos (by omega)]
  · rw [if_neg (by omega), if_pos (by omega)]
theorem in_table {P2 P3 P4 P5 P6 d : Nat} {a p1 : Int} (L : Lay P2 P3 P4 P5 P6 d a) (h1 : p1 = 3) (e : Nat) (he : e < d) (i : Nat) (hi : i < 8) :
    ((P2 + e * 8 / 256 + (e * 8 % 256 + i) / 256 : Nat) : Int) < a ∧ ((geom_Where.ar (startsL p1 P2 P3 P4 P5 P6) ((P2 + e * 8 / 256 + (e * 8 % 256 + i) / 256 : Nat) : Int) 8 : Nat) : Int) = 3 := by
  obtain ⟨X, hX⟩ : ∃ X, X = P2 + e * 8 / 256 + (e * 8 % 256 + i) / 256 := ⟨_, rfl⟩
  rw [← hX]
  have q : P2 ≤ X ∧ X < P3 ∧ (X : Int) < a := by
    obtain ⟨q2, q3, q4, q5, q6, q7, q8, q9, q0⟩ := L
    omega
  exact ⟨q.2.2, by rw [(ar_of L h1 X).1 q.1 q.2.1]; rfl⟩
theorem in_marks {P2 P3 P4 P5 P6 d : Nat} {a p1 : Int} (L : Lay P2 P3 P4 P5 P6 d a) (h1 : p1 = 3) (e : Nat) (he : e < d) (i : Nat) (hi : i < 4) :
    ((P3 + e * 4 / 256 + (e * 4 % 256 + i) / 256 : Nat) : Int) < a ∧ ((geom_Where.ar (startsL p1 P2 P3 P4 P5 P6) ((P3 + e * 4 / 256 + (e * 4 % 256 + i) / 256 : Nat) : Int) 8 : Nat) : Int) = 4 := by
  obtain ⟨X, hX⟩ : ∃ X, X = P3 + e * 4 / 256 + (e * 4 % 256 + i) / 256 := ⟨_, rfl⟩
  rw [← hX]
  have q : P3 ≤ X ∧ X < P4 ∧ (X : Int) < a := by
    obtain ⟨q2, q3, q4, q5, q6, q7, q8, q9, q0⟩ := L
    omega
  exact ⟨q.2.2, by rw [(ar_of L h1 X).2.1 q.1 q.2.1]; rfl⟩
theorem in_heap {P2 P3 P4 P5 P6 d : Nat} {a p1 : Int} (L : Lay P2 P3 P4 P5 P6 d a) (h1 : p1 = 3) (e : Nat) (he : e < d) (n m : Nat) (hn : n + m ≤ 1024) (i : Nat) (hi : i < m) :
    ((P5 + 4 * e + n / 256 + (n % 256 + i) / 256 : Nat) : Int) < a ∧ ((geom_Where.ar (startsL p1 P2 P3 P4 P5 P6) ((P5 + 4 * e + n / 256 + (n % 256 + i) / 256 : Nat) : Int) 8 : Nat) : Int) = 6 := by
  obtain ⟨X, hX⟩ : ∃ X, X = P5 + 4 * e + n / 256 + (n % 256 + i) / 256 := ⟨_, rfl⟩
  rw [← hX]
  have q : P5 ≤ X ∧ X < P6 ∧ (X : Int) < a := by
    obtain ⟨q2, q3, q4, q5, q6, q7, q8, q9, q0⟩ := L
    omega
  exact ⟨q.2.2, by rw [(ar_of L h1 X).2.2 q.1 q.2.1]; rfl⟩
/-- A byte of an extent, of its entry or of its marks. -/
def cov (P2 P3 P5 e A : Nat) : Prop := (P2 * 256 + e * 8 ≤ A ∧ A < P2 * 256 + e * 8 + 8) ∨ (P3 * 256 + e * 4 ≤ A ∧ A < P3 * 256 + e * 4 + 4) ∨ (P5 * 256 + 1024 * e ≤ A ∧ A < P5 * 256 + 1024 * e + 1024)
/-- Only bytes of these extents are used. -/
def Cov (P2 P3 P5 d : Nat) (es : List Nat) (M : Nat → Bool) : Prop := ∀ A, M A = true → ∃ e, e ∈ es ∧ e < d ∧ cov P2 P3 P5 e A
theorem cov_none (P2 P3 P5 d : Nat) : Cov P2 P3 P5 d [] (fun _ => false) := fun A h => by cases h
theorem cov_no {P2 P3 P4 P5 P6 d : Nat} {a : Int} (L : Lay P2 P3 P4 P5 P6 d a) {es : List Nat} {M : Nat → Bool} (C : Cov P2 P3 P5 d es M) {e A : Nat} (he : e < d) (hn : e ∉ es) (h : cov P2 P3 P5 e A) : M A = false := by
  cases hM : M A
  · rfl
  · obtain ⟨f, hf, hfd, k⟩ := C A hM
    have hne : e ≠ f := fun q => hn (q ▸ hf)
    obtain ⟨q2, q3, q4, q5, q6, q7, q8, q9, q0⟩ := L
    unfold cov at h k
    omega
def mT (P2 e : Nat) (M : Nat → Bool) : Nat → Bool := laid M (P2 * 256 + e * 8) 8
def mM (P2 P3 e : Nat) (M : Nat → Bool) : Nat → Bool := laid (mT P2 e M) (P3 * 256 + e * 4) 4
def mH (P2 P3 P5 e n : Nat) (M : Nat → Bool) : Nat → Bool := laid (mM P2 P3 e M) (P5 * 256 + 1024 * e) n
theorem table_free {P2 P3 P4 P5 P6 d : Nat} {a : Int} (L : Lay P2 P3 P4 P5 P6 d a) {es : List Nat} {M : Nat → Bool} (C : Cov P2 P3 P5 d es M) {e : Nat} (he : e < d) (hn : e ∉ es) (i : Nat) (hi : i < 8) : M ((P2 + e * 8 / 256) * 256 + e * 8 % 256 + i) = false := by
  refine cov_no L C he hn (.inl ?_)
  omega
theorem marks_free {P2 P3 P4 P5 P6 d : Nat} {a : Int} (L : Lay P2 P3 P4 P5 P6 d a) {es : List Nat} {M : Nat → Bool} (C : Cov P2 P3 P5 d es M) {e : Nat} (he : e < d) (hn : e ∉ es) (i : Nat) (hi : i < 4) : mT P2 e M ((P3 + e * 4 / 256) * 256 + e * 4 % 256 + i) = false := by
  obtain ⟨A, hA⟩ : ∃ A, A = (P3 + e * 4 / 256) * 256 + e * 4 % 256 + i := ⟨_, rfl⟩
  have hb : P3 * 256 + e * 4 ≤ A ∧ A < P3 * 256 + e * 4 + 4 := by omega
  rw [← hA]
  have hm := cov_no L C he hn (A := A) (.inr (.inl hb))
  cases q : mT P2 e M A
  · rfl
  · unfold mT at q
    rcases laid_true.1 q with q | q
    · rw [hm] at q; cases q
    · obtain ⟨q2, q3, q4, q5, q6, q7, q8, q9, q0⟩ := L
      omega
theorem heap_free {P2 P3 P4 P5 P6 d : Nat} {a : Int} (L : Lay P2 P3 P4 P5 P6 d a) {es : List Nat} {M : Nat → Bool} (C : Cov P2 P3 P5 d es M) {e : Nat} (he : e < d) (hn : e ∉ es) (n m : Nat) (hm : n + m ≤ 1024) (i : Nat) (hi : i < m) : mH P2 P3 P5 e n M ((P5 + 4 * e + n / 256) * 256 + n % 256 + i) = false := by
  obtain ⟨A, hA⟩ : ∃ A, A = (P5 + 4 * e + n / 256) * 256 + n % 256 + i := ⟨_, rfl⟩
  have hb : P5 * 256 + 1024 * e + n ≤ A ∧ A < P5 * 256 + 1024 * e + 1024 := by omega
  rw [← hA]
  have hm := cov_no L C he hn (A := A) (.inr (.inr ⟨by omega, by omega⟩))
  cases q : mH P2 P3 P5 e n M A
  · rfl
  · unfold mH mM mT at q
    obtain ⟨q2, q3, q4, q5, q6, q7, q8, q9, q0⟩ := L
    rcases laid_true.1 q with q | q
    · rcases laid_true.1 q with q | q
      · rcases laid_true.1 q with q | q
        · rw [hm] at q; cases q
        · omega
      · omega
    · omega
theorem heap_add (P2 P3 P5 e n m : Nat) (M : Nat → Bool) : laid (mH P2 P3 P5 e n M) ((P5 + 4 * e + n / 256) * 256 + n % 256) m = mH P2 P3 P5 e (n + m) M := by
  rw [show (P5 + 4 * e + n / 256) * 256 + n % 256 = P5 * 256 + 1024 * e + n by omega]
  exact laid_add _ _ _ _
theorem table_lin (P2 e m : Nat) (M : Nat → Bool) : laid M ((P2 + e * 8 / 256) * 256 + e * 8 % 256) m = laid M (P2 * 256 + e * 8) m := by
  rw [show (P2 + e * 8 / 256) * 256 + e * 8 % 256 = P2 * 256 + e * 8 by omega]
theorem marks_lin (P3 e m : Nat) (M : Nat → Bool) : laid M ((P3 + e * 4 / 256) * 256 + e * 4 % 256) m = laid M (P3 * 256 + e * 4) m := by
  rw [show (P3 + e * 4 / 256) * 256 + e * 4 % 256 = P3 * 256 + e * 4 by omega]
theorem heap_zero (P2 P3 P5 e : Nat) (M : Nat → Bool) : mH P2 P3 P5 e 0 M = mM P2 P3 e M := laid_zero _ _
theorem cov_next {P2 P3 P5 d : Nat} {es : List Nat} {M : Nat → Bool} (C : Cov P2 P3 P5 d es M) {e : Nat} (he : e < d) : Cov P2 P3 P5 d (es ++ [e]) (mH P2 P3 P5 e 1024 M) := by
  intro A h
  unfold mH mM mT at h
  rcases laid_true.1 h with h | h
  · rcases laid_true.1 h with h | h
    · rcases laid_true.1 h with h | h
      · obtain ⟨f, q1, q2, q3⟩ := C A h
        exact ⟨f, List.mem_append_left _ q1, q2, q3⟩
      · exact ⟨e, by simp, he, .inl h⟩
    · exact ⟨e, by simp, he, .inr (.inl h)⟩
  · exact ⟨e, by simp, he, .inr (.inr h)⟩
end Go.Proofs.Ythfjgheedingbaa.Pure
