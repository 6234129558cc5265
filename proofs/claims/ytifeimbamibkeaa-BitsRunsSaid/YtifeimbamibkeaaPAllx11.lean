-- Written for this claim by a program of this session's own: each Go function that the law uses, as a plain Lean function, with the proof that the machine's call comes to it.
import Derived.Test.YtifeimbamibkeaaPAllx0
import Derived.RangeFuncBox
import Derived.RangeFuncFrom
import Derived.RangeFuncMany
import Derived.RangeFuncLeaves
import Derived.Shelf.Abstract
import Derived.OwnWalkIn
import Derived.TacticsInMore
import Derived.LoopNIn
import Derived.LoopIn
import Derived.BigFrameIn
namespace Go.Proofs.Ytifeimbamibkeaa.PAll
open Go.RowKit Go.Proofs.YtifeimbamibkeaaW.PrintWords Go.Proofs.YtifeimbamibkeaaW.PrintLast Go.Proofs.YtifeimbamibkeaaW.PrintMore
attribute [local go_sem] max2_int min2_int max_two min_two max_three min_three max_four min_four   -- for this text's walks alone
set_option linter.unusedVariables false
set_option linter.unusedSimpArgs false

attribute [local go_sem] setCell_drewN_
/-! ### bits_And: function 33 -/
-- BY HAND
/-- What has been put together after k rounds. -/
def bits_And.part (op : Int → Int → Int) (a b : List Int) (k : Nat) : List Int := (List.zipWith op a b).take k ++ List.replicate (a.length - k) 0
theorem bits_And.part_zero (op : Int → Int → Int) (a b : List Int) : bits_And.part op a b 0 = List.replicate a.length 0 := by simp [bits_And.part]
theorem bits_And.part_length (op : Int → Int → Int) (a b : List Int) (k : Nat) (h : a.length = b.length) (hk : k ≤ a.length) : (bits_And.part op a b k).length = a.length := by
  unfold bits_And.part
  rw [List.length_append, List.length_take, List.length_zipWith, List.length_replicate]
  omega
theorem bits_And.part_end (op : Int → Int → Int) (a b : List Int) (h : a.length = b.length) : bits_And.part op a b a.length = List.zipWith op a b := by
  unfold bits_And.part
  rw [List.take_of_length_le (by rw [List.length_zipWith]; omega), Nat.sub_self]
  simp
theorem bits_And.part_succ (op : Int → Int → Int) (a b : List Int) (k : Nat) (h : a.length = b.length) (hk : k < a.length) : (bits_And.part op a b k).set k (op (rd a k) (rd b k)) = bits_And.part op a b (k + 1) := by
  have hz : k < (List.zipWith op a b).length := by rw [List.length_zipWith]; omega
  have h1 : ((List.zipWith op a b).take k).length = k := by rw [List.length_take]; omega
  unfold bits_And.part
  rw [List.set_append_right _ _ (by omega), h1, Nat.sub_self, show a.length - k = (a.length - (k + 1)) + 1 by omega, List.replicate_succ, List.set_cons_zero, List.take_succ_eq_append_getElem hz, List.append_assoc]
  congr 1
  rw [List.getElem_zipWith]
  unfold rd
  rw [List.getD_eq_getElem?_getD, List.getD_eq_getElem?_getD, show ((k : Int).toNat) = k from by omega, List.getElem?_eq_getElem hk, List.getElem?_eq_getElem (show k < b.length by omega)]
  rfl
set_option maxHeartbeats 2000000 in
/-- Two rows put together, by any closure that answers of two bytes alone. -/
theorem bits_And.joins (q : Nat) (op : Int → Int → Int) (hq : ∀ (x y : Int) (W : World), Calls Try.prog q #[.int .u8 x, .int .u8 y] W fun e w' => e = .returned (.int .u8 (op x y)) ∧ w' = W)
    (hqf : ∀ args W, (callFunc q args).run Try.prog W = .ok (.enter q args) W)
    (A0 : Option Addr) (c0 : Nat) (l0 : List Int) (A1 : Option Addr) (c1 : Nat) (l1 : List Int) (w : World) (hr0 : Kd.C (Kd.int .u8) w A0 l0.length l0) (hc0 : l0.length ≤ c0) (hr1 : Kd.C (Kd.int .u8) w A1 l1.length l1) (hc1 : l1.length ≤ c1)
    (hl : l0.length = l1.length) (hlim : l0.length ≤ 281474976710656) :
    Calls Try.prog 43 #[.slice A0 l0.length c0, .slice A1 l1.length c1, .func (.func q) #[] #[]] w fun e w' => ∃ v0_ : Value, e = .returned (.tuple #[v0_, .int .i64 0]) ∧ Kd.R (Kd.int .u8) 5 w' w.heap.size (fun _ => True) v0_ (List.zipWith op l0 l1) ∧ Below w.heap.size w w' := by
  have HR0 := Aside0.mk hr0
  have HC0 := Aside0.mk hc0
  have HR1 := Aside0.mk hr1
  have HC1 := Aside0.mk hc1
  have HL := Aside0.mk hl
  have HN := Aside0.mk hlim
  have HQ := Aside0.mk hq
  have HB := Aside0.mk (Below.refl w.heap.size w)
  clear hr0 hc0 hr1 hc1 hq
  have hne : ((l0.length : Int) != (l1.length : Int)) = false := by rw [hl]; simp
  have hne2 : (l0.length != l1.length) = false := by rw [hl]; simp
  have hd0 : decide (0 ≤ (l0.length : Int)) = true := decide_eq_true (by omega)
  have hd1 : decide ((l0.length : Int).toNat ≤ 281474976710656) = true := decide_eq_true (by omega)
  clear hl hlim
  obtain ⟨y0, hy0⟩ : ∃ y : List Int, y = List.replicate (l0.length : Int).toNat 0 := ⟨_, rfl⟩
  have Ny := Aside0.mk hy0
  clear hy0
  go_enter Try.func43, Try.ntmps43
  go_wp2_with ((with_reducible refine gate_dst (N := 18) rfl ?_); refine Kd.R_make (Kd.int .u8) _ 5 rfl (N := 18) rfl 22 _ _ rfl (l0.length : Int) rfl rfl Try.underlying22 (.int .u8 0) 1 info5 rfl (by decide) (by omega) 0 (ok := fun _ => True) (okp := fun _ => True) rfl (fun _ hk => hk) trivial (of_decide_eq_true (by first | (with_reducible assumption) | assumption)) (Nat.le_trans (Nat.mul_le_mul_right _ (of_decide_eq_true (by first | (with_reducible assumption) | assumption) : (l0.length : Int).toNat ≤ 281474976710656)) (by omega)) (Below.refl _ _) (Nat.le_refl _) ?_; intro v114 w11 ho12 hb hg_ hnew_; clear hg_ hnew_; (first | rw [← Ny.out] at ho12 | (simp only [Int.reduceToNat] at ho12; rw [← Ny.out] at ho12)); have HO1 := Aside0.mk ho12; have HB1 := Aside0.mk hb; clear hb ho12 HB)
  go_loopw [21] (fun v wr => ∃ k : Nat, k ≤ l0.length ∧ v = .int .i64 k ∧ Aside0 (Kd.R (Kd.int .u8) 5 wr w.heap.size (fun _ => True) v114 (bits_And.part op l0 l1 k)) ∧ Aside0 (Below w.heap.size w wr))
    (fun v _ => l0.length - (intOf v).toNat)
  case atStart => exact ⟨0, Nat.zero_le _, rfl, ⟨by rw [bits_And.part_zero]; have h := HO1.out; rw [Ny.out, Int.toNat_natCast] at h; exact h⟩, HB1⟩
  case round =>
    obtain ⟨k, hk, rfl, HO, HBr⟩ := hrel
    have hpl := bits_And.part_length op l0 l1 k HL.out hk
    have hN := HN.out
    by_cases hlt : k < l0.length
    · have hd2 : decide ((k : Int) < (l0.length : Int)) = true := decide_eq_true (by omega)
      obtain ⟨ad0, e0, hx0⟩ := Kd.at_int HR0.out (k : Int) (by omega) (by omega)
      obtain ⟨ad1, e1, hx1⟩ := Kd.at_int HR1.out (k : Int) (by omega) (by have := HL.out; omega)
      subst e0
      subst e1
      replace hx0 := (HBr.out.cell (World.block_lt_of_cell? w _ hx0)).trans hx0
      replace hx1 := (HBr.out.cell (World.block_lt_of_cell? w _ hx1)).trans hx1
      obtain ⟨go, co, eo, gb, gl, cl, hG⟩ := Kd.R_form HO.out (by omega)
      subst eo
      obtain ⟨hcx, hcf⟩ := Kd.R_celln 0 HO.out (k : Int) (by omega) (by omega)
      have HP := Aside0.mk (Kd.R_putn HO.out (k : Int) (op (rd l0 k) (rd l1 k)))
      have hkl1 : decide ((k : Int) < (l1.length : Int)) = true := decide_eq_true (by have := HL.out; omega)
      have hkn : k < l1.length := by have := HL.out; omega
      have hw1 : IntKind.i64.wrap ((k : Int) + 1) = (k : Int) + 1 := by rw [i64_w]; unfold wrap64; omega
      rw [Int.toNat_natCast] at hx0 hx1 hcx hcf HP
      have HPL := Aside0.mk hpl
      rw [bits_And.part_succ op l0 l1 k HL.out hlt] at HP
      clear hpl
      have hk1 : k + 1 ≤ l0.length := hlt
      have gb2 := Aside0.mk gb
      clear gb gl hG cl HO
      simp only [HPL.out] at HP ⊢
      clear hN
      go_wp2_with fail
      refine (HQ.out _ _ _).mono ?_
      rintro e w' ⟨rfl, rfl⟩
      go_wp2_with fail
      go_roundw
      case rel => exact ⟨k + 1, hk1, by go_num, HP, ⟨HBr.out.setCell (p := ⟨go, k, none⟩) gb2.out _⟩⟩
      case measure => simp [intOf]; omega
    · obtain rfl : k = l0.length := by omega
      have hd2 : decide ((l0.length : Int) < (l0.length : Int)) = false := decide_eq_false (by omega)
      clear hN hpl
      go_wp2_with fail
      go_ret2
      have h := HO.out
      rw [bits_And.part_end op l0 l1 HL.out] at h
      exact ⟨_, rfl, h, HBr.out⟩
theorem bits_And.joins_not (q : Nat) (A0 : Option Addr) (c0 : Nat) (l0 : List Int) (A1 : Option Addr) (c1 : Nat) (l1 : List Int) (w : World) (hl : l0.length ≠ l1.length) :
    Calls Try.prog 43 #[.slice A0 l0.length c0, .slice A1 l1.length c1, .func (.func q) #[] #[]] w fun e w' => e = .returned (.tuple #[.slice none 0 0, .int .i64 20]) ∧ w' = w := by
  have hne : ((l0.length : Int) != (l1.length : Int)) = true := by rw [bne_iff_ne]; omega
  have hne2 : (l0.length != l1.length) = true := by rw [bne_iff_ne]; exact hl
  have hne3 : (l0.length == l1.length) = false := by rw [beq_eq_false_iff_ne]; exact hl
  have hne4 : (l0.length = l1.length) = False := eq_false hl
  clear hl
  go_enter Try.func43, Try.ntmps43
  go_wp2
  go_ret2
  exact ⟨rfl, rfl⟩
def bits_And.f (l0 : List Int) (l1 : List Int) : Option (List Int × Int) := if l0.length ≤ 281474976710656 then (if l0.length = l1.length then some (List.zipWith (fun x y => Go.bits .and .u8 x y) l0 l1, 0) else some ([], 20)) else none
theorem bits_And.op (x y : Int) (W : World) : Calls Try.prog 45 #[.int .u8 x, .int .u8 y] W fun e w' => e = .returned (.int .u8 (Go.bits .and .u8 x y)) ∧ w' = W := by
  go_enter Try.func45, Try.ntmps45
  go_wp2
  go_ret
  exact ⟨rfl, rfl⟩
set_option maxHeartbeats 2000000 in
theorem bits_And.calls (A0 : Option Addr) (c0 : Nat) (l0 : List Int) (A1 : Option Addr) (c1 : Nat) (l1 : List Int) (r1 : List Int) (r2 : Int) (w : World) (hr0 : Kd.C (Kd.int .u8) w A0 l0.length l0) (hc0 : l0.length ≤ c0) (hr1 : Kd.C (Kd.int .u8) w A1 l1.length l1) (hc1 : l1.length ≤ c1) (h : bits_And.f l0 l1 = some (r1, r2)) :
    Calls Try.prog 33 #[.slice A0 l0.length c0, .slice A1 l1.length c1] w fun e w' => ∃ v0_ : Value, e = .returned (.tuple #[v0_, .int .i64 r2]) ∧ Kd.R (Kd.int .u8) 5 w' w.heap.size (fun _ => True) v0_ r1 ∧ Below w.heap.size w w' := by
  unfold bits_And.f at h
  by_cases hlim : l0.length ≤ 281474976710656
  · rw [if_pos hlim] at h
    by_cases hl : l0.length = l1.length
    · rw [if_pos hl] at h
      obtain ⟨rfl, rfl⟩ : List.zipWith (fun x y => Go.bits .and .u8 x y) l0 l1 = r1 ∧ (0 : Int) = r2 := by simpa using h
      have HC := Aside0.mk (bits_And.joins 45 (fun x y => Go.bits .and .u8 x y) bits_And.op (enters_of Try.func45 (by kernel_rfl) rfl) A0 c0 l0 A1 c1 l1 w hr0 hc0 hr1 hc1 hl hlim)
      clear hr0 hc0 hr1 hc1 h hl hlim
      go_enter Try.func33, Try.ntmps33
      go_wp2_with fail
      refine HC.out.mono ?_
      rintro e w1 ⟨v, rfl, ho, hb⟩
      have HO := Aside0.mk ho
      have HB := Aside0.mk hb
      clear ho hb
      go_wp2
      go_ret2
      exact ⟨_, rfl, HO.out, HB.out⟩
    · rw [if_neg hl] at h
      obtain ⟨rfl, rfl⟩ : ([] : List Int) = r1 ∧ (20 : Int) = r2 := by simpa using h
      have HC := Aside0.mk (bits_And.joins_not 45 A0 c0 l0 A1 c1 l1 w hl)
      clear hr0 hc0 hr1 hc1 h hl hlim
      go_enter Try.func33, Try.ntmps33
      go_wp2_with fail
      refine HC.out.mono ?_
      rintro e w1 ⟨rfl, rfl⟩
      go_wp2
      go_ret2
      exact ⟨_, rfl, Kd.R_nil _ _ _ _ _, Below.refl _ _⟩
  · rw [if_neg hlim] at h
    cases h


end Go.Proofs.Ytifeimbamibkeaa.PAll
