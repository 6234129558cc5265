/- The contracts of And, Or, Sub, Within and Equal, in the form in which the walks of the statements use them. -/
import Derived.Test.YtifeimbamibkeaaClean
namespace Go.Proofs.Ytifeimbamibkeaa.Pure
open Go.RowKit Go.Proofs.Ytifeimbamibkeaa.PAll Go.Proofs.YtifeimbamibkeaaW.PrintWords Go.Proofs.YtifeimbamibkeaaW.PrintLast Go.Proofs.YtifeimbamibkeaaW.PrintMore
set_option linter.unusedVariables false

theorem equal_self (l : List Int) : bytes_Equal.f l l = some true := by
  unfold bytes_Equal.f
  simp
/-- Whether a row lies within another one. -/
def withinB (a b : List Int) : Bool := (bits_Within.f (8 * a.length + 1) a b).getD false
section
variable {A : Option Addr} {c : Nat} {l : List Int} {w : World} (hC : Kd.C (Kd.int .u8) w A l.length l) (hc : l.length ≤ c)
variable {A2 : Option Addr} {c2 : Nat} {l2 : List Int} (hC2 : Kd.C (Kd.int .u8) w A2 l2.length l2) (hc2 : l2.length ≤ c2)
include hC hc hC2 hc2
theorem and_c (hl : l.length < 140737488355328) {r : List Int} {n : Int} (h : setA (fun x y => Go.bits .and .u8 x y) l l2 = (r, n)) : Calls Try.prog 33 #[.slice A l.length c, .slice A2 l2.length c2] w (Gives2 w r n) := by
  refine (bits_And.calls A c l A2 c2 l2 r n w hC hc hC2 hc2 (by rw [and_w l l2 hl, h])).mono ?_
  rintro e w' ⟨v, rfl, ho, hb⟩
  exact gives2_of ho hb
theorem rand_c (hb : Bytes l) (hb2 : Bytes l2) (hl : l.length < 140737488355328) {r : List Int} {n : Int} (h : setA (fun x y => Go.bits .and .u8 x y) l l2 = (r, n)) : Calls Try.prog 34 #[.slice A l.length c, .slice A2 l2.length c2] w (Gives2 w r n) := by
  refine (atticref02_And.calls (8 * l.length + 1) A c l A2 c2 l2 r n w hC hc hC2 hc2 (by rw [and_r _ l l2 hb hb2 hl (Nat.lt_succ_self _), h])).mono ?_
  rintro e w' ⟨v, rfl, ho, hb⟩
  exact gives2_of ho hb
theorem or_c (hl : l.length < 140737488355328) {r : List Int} {n : Int} (h : setA (fun x y => Go.bits .or .u8 x y) l l2 = (r, n)) : Calls Try.prog 32 #[.slice A l.length c, .slice A2 l2.length c2] w (Gives2 w r n) := by
  refine (bits_Or.calls A c l A2 c2 l2 r n w hC hc hC2 hc2 (by rw [or_w l l2 hl, h])).mono ?_
  rintro e w' ⟨v, rfl, ho, hb⟩
  exact gives2_of ho hb
theorem ror_c (hb : Bytes l) (hb2 : Bytes l2) (hl : l.length < 140737488355328) {r : List Int} {n : Int} (h : setA (fun x y => Go.bits .or .u8 x y) l l2 = (r, n)) : Calls Try.prog 35 #[.slice A l.length c, .slice A2 l2.length c2] w (Gives2 w r n) := by
  refine (atticref02_Or.calls (8 * l.length + 1) A c l A2 c2 l2 r n w hC hc hC2 hc2 (by rw [or_r _ l l2 hb hb2 hl (Nat.lt_succ_self _), h])).mono ?_
  rintro e w' ⟨v, rfl, ho, hb⟩
  exact gives2_of ho hb
theorem sub_c (hl : l.length < 140737488355328) {r : List Int} {n : Int} (h : setA (fun x y => Go.bits .andNot .u8 x y) l l2 = (r, n)) : Calls Try.prog 36 #[.slice A l.length c, .slice A2 l2.length c2] w (Gives2 w r n) := by
  refine (bits_Sub.calls A c l A2 c2 l2 r n w hC hc hC2 hc2 (by rw [sub_w l l2 hl, h])).mono ?_
  rintro e w' ⟨v, rfl, ho, hb⟩
  exact gives2_of ho hb
theorem rsub_c (hb : Bytes l) (hb2 : Bytes l2) (hl : l.length < 140737488355328) {r : List Int} {n : Int} (h : setA (fun x y => Go.bits .andNot .u8 x y) l l2 = (r, n)) : Calls Try.prog 37 #[.slice A l.length c, .slice A2 l2.length c2] w (Gives2 w r n) := by
  refine (atticref02_Sub.calls (8 * l.length + 1) A c l A2 c2 l2 r n w hC hc hC2 hc2 (by rw [sub_r _ l l2 hb hb2 hl (Nat.lt_succ_self _), h])).mono ?_
  rintro e w' ⟨v, rfl, ho, hb⟩
  exact gives2_of ho hb
theorem equal_c {r : Bool} (h : bytes_Equal.f l l2 = some r) : Calls Try.prog 14 #[.slice A l.length c, .slice A2 l2.length c2] w fun e w' => e = .returned (.bool r) ∧ Below w.heap.size w w' := by
  refine (bytes_Equal.calls A c l A2 c2 l2 r w hC hc hC2 hc2 h).mono ?_
  rintro e w' ⟨rfl, hd⟩
  exact ⟨rfl, drawn_below hd⟩
theorem within_c (hb : Bytes l) (hb2 : Bytes l2) (hl : l.length < 140737488355328) (hl2 : l2.length < 140737488355328) : Calls Try.prog 38 #[.slice A l.length c, .slice A2 l2.length c2] w fun e w' => e = .returned (.bool (withinB l l2)) ∧ Below w.heap.size w w' := by
  obtain ⟨r, h1, h2, h3⟩ := within_both (8 * l.length + 1) l l2 hb hb2 hl hl2 (Nat.lt_succ_self _)
  have hr : withinB l l2 = r := by unfold withinB; rw [h1]; rfl
  rw [hr]
  refine (bits_Within.calls _ A c l A2 c2 l2 r w hC hc hC2 hc2 h1).mono ?_
  rintro e w' ⟨rfl, hd⟩
  exact ⟨rfl, drawn_below hd⟩
theorem rwithin_c (hb : Bytes l) (hb2 : Bytes l2) (hl : l.length < 140737488355328) (hl2 : l2.length < 140737488355328) : Calls Try.prog 39 #[.slice A l.length c, .slice A2 l2.length c2] w fun e w' => e = .returned (.bool (withinB l l2)) ∧ Below w.heap.size w w' := by
  obtain ⟨r, h1, h2, h3⟩ := within_both (8 * l.length + 1) l l2 hb hb2 hl hl2 (Nat.lt_succ_self _)
  have hr : withinB l l2 = r := by unfold withinB; rw [h1]; rfl
  rw [hr]
  refine (atticref02_Within.calls _ A c l A2 c2 l2 r w hC hc hC2 hc2 h2).mono ?_
  rintro e w' ⟨rfl, hd⟩
  exact ⟨rfl, drawn_below hd⟩
end
theorem withinB_iff {a b : List Int} (ha : Bytes a) (hb : Bytes b) (hn : a.length < 140737488355328) (hn2 : b.length < 140737488355328) : withinB a b = true ↔ ∀ i, i < 8 * a.length → bitN a i = true → bitN b i = true := by
  obtain ⟨r, h1, h2, h3⟩ := within_both (8 * a.length + 1) a b ha hb hn hn2 (Nat.lt_succ_self _)
  have hr : withinB a b = r := by unfold withinB; rw [h1]; rfl
  rw [hr, h3]
/-! ### Counts of what both, one, and the first alone have -/
theorem ones_and_or {a b : List Int} (ha : Bytes a) (hb : Bytes b) (hl : a.length = b.length) : ∀ n, n ≤ 8 * a.length → ones (List.zipWith (fun x y => Go.bits .and .u8 x y) a b) n + ones (List.zipWith (fun x y => Go.bits .or .u8 x y) a b) n = ones a n + ones b n
  | 0, _ => rfl
  | n + 1, h => by
    have ih := ones_and_or ha hb hl n (by omega)
    unfold ones
    rw [zip_bit bw_and ha hb hl n (by omega), zip_bit bw_or ha hb hl n (by omega)]
    cases bitN a n <;> cases bitN b n <;> simp <;> omega
theorem ones_and_sub {a b : List Int} (ha : Bytes a) (hb : Bytes b) (hl : a.length = b.length) : ∀ n, n ≤ 8 * a.length → ones (List.zipWith (fun x y => Go.bits .and .u8 x y) a b) n + ones (List.zipWith (fun x y => Go.bits .andNot .u8 x y) a b) n = ones a n
  | 0, _ => rfl
  | n + 1, h => by
    have ih := ones_and_sub ha hb hl n (by omega)
    unfold ones
    rw [zip_bit bw_and ha hb hl n (by omega), zip_bit bw_sub ha hb hl n (by omega)]
    cases bitN a n <;> cases bitN b n <;> simp <;> omega
theorem ones_zero (l : List Int) : ∀ n, ones l n = 0 ↔ ∀ i, i < n → bitN l i = false
  | 0 => by simp [ones]
  | n + 1 => by
    have ih := ones_zero l n
    unfold ones
    constructor
    · intro h i hi
      by_cases e : i = n
      · subst e
        cases hb : bitN l i
        · rfl
        · rw [hb] at h; simp at h
      · exact ih.1 (by omega) i (by omega)
    · intro h
      rw [ih.2 (fun i hi => h i (by omega)), h n (by omega)]
      rfl
theorem within_sub {a b : List Int} (ha : Bytes a) (hb : Bytes b) (hl : a.length = b.length) (hn : a.length < 140737488355328) : withinB a b = decide (ones (List.zipWith (fun x y => Go.bits .andNot .u8 x y) a b) (8 * a.length) = 0) := by
  rw [Bool.eq_iff_iff, withinB_iff ha hb hn (by omega), decide_eq_true_eq, ones_zero]
  constructor
  · intro h i hi
    rw [zip_bit bw_sub ha hb hl i hi]
    have := h i hi
    revert this
    cases bitN a i <;> cases bitN b i <;> simp
  · intro h i hi h1
    have := h i hi
    rw [zip_bit bw_sub ha hb hl i hi, h1] at this
    revert this
    cases bitN b i <;> simp
theorem within_and {a b : List Int} (ha : Bytes a) (hb : Bytes b) (hl : a.length = b.length) (hn : a.length < 140737488355328) : withinB (List.zipWith (fun x y => Go.bits .and .u8 x y) a b) a = true := by
  have e : (List.zipWith (fun x y => Go.bits .and .u8 x y) a b).length = a.length := by rw [List.length_zipWith]; omega
  rw [withinB_iff (zip_bytes bw_and ha hb) ha (by omega) hn]
  intro i hi h
  rw [zip_bit bw_and ha hb hl i (by omega)] at h
  exact (Bool.and_eq_true _ _ |>.mp h).1
theorem within_or {a b : List Int} (ha : Bytes a) (hb : Bytes b) (hl : a.length = b.length) (hn : a.length < 140737488355328) : withinB a (List.zipWith (fun x y => Go.bits .or .u8 x y) a b) = true := by
  have e : (List.zipWith (fun x y => Go.bits .or .u8 x y) a b).length = a.length := by rw [List.length_zipWith]; omega
  rw [withinB_iff ha (zip_bytes bw_or ha hb) hn (by omega)]
  intro i hi h
  rw [zip_bit bw_or ha hb hl i (by omega), h]
  rfl
end Go.Proofs.Ytifeimbamibkeaa.Pure
