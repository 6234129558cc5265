/- The walk of the statement ClassSlots: its range over all classes, and what it compares behind it; for every class's number and every number of rounds. -/
import Derived.Test.YtgcgkhgmmphggaaPAllx5
import Derived.Test.YtgcgkhgmmphggaaPAllx4
import Derived.RangeFuncBox
import Derived.RangeFuncCalls
import Derived.RangeFuncFrom
import Derived.RangeFuncMany
import Derived.RangeFuncLeaves
import Derived.Shelf.Abstract
import Derived.OwnWalkIn
import Derived.TacticsInMore
import Derived.LoopNIn
import Derived.LoopIn
import Derived.BigFrameIn
namespace Go.Proofs.Ytgcgkhgmmphggaa.PAll
open Go.RowKit Go.Proofs.YtgcgkhgmmphggaaW.PrintWords Go.Proofs.YtgcgkhgmmphggaaW.PrintLast Go.Proofs.YtgcgkhgmmphggaaW.PrintMore
attribute [local go_sem] max2_int min2_int max_two min_two max_three min_three max_four min_four
set_option linter.unusedVariables false
set_option linter.unusedSimpArgs false
namespace Slots
theorem keeps_drewN (W : World) (n : Nat) : KeepsOthers W (W.drewN n) := ⟨Nat.le_refl _, fun _ _ h _ => h⟩
theorem boxed_drewN {W : World} {B t : Nat} {v : Value} (h : Boxed W B t v) (n : Nat) : Boxed (W.drewN n) B t v := h
/-- What holds at a round's head. -/
def I (w : World) (B4 B6 : Nat) (B3 : Nat) (most : Int) (pre : List Nat) (W : World) : Prop :=
  (pre.length : Int) ≤ most ∧ Boxed W B6 3 (.int .i64 pre.length) ∧ Boxed W B3 5 (.int .u8 most) ∧ Boxed W B4 4 (.bool false) ∧ Below w.heap.size w W
/-- How the range is left ahead of its end. -/
def Ix (w : World) (B4 B6 : Nat) (B3 : Nat) (most : Int) (c : Code) (pre : List Nat) (W : World) : Prop :=
  (c = .exit 0 ∧ ∃ p x, pre = p ++ [x] ∧ (p.length : Int) = most ∧ Boxed W B6 3 (.int .i64 p.length) ∧ Boxed W B3 5 (.int .u8 most) ∧ Boxed W B4 4 (.bool false) ∧ Below w.heap.size w W) ∨
  (c = .ret ∧ ∃ p x, pre = p ++ [x] ∧ x ≠ p.length)
set_option maxRecDepth 100000 in
set_option maxHeartbeats 4000000 in
theorem calls (k : Nat) (c most : Int) (s u : Int) (w : World) (hm : 0 ≤ most ∧ most ≤ 255) (hL : atticlaw11_live.f = some true)
    (hS : ∀ j : Nat, j < 6 → atticref11_Slot.f k j = some (class_Of.slot j))
    (hs : class_Slot.f c = some s) (hs2 : atticref11_Slot.f k c = some s) (hu : class_Slots.f c = some u) (hu2 : atticref11_Slots.f k c = some u) :
    Calls Try.prog 4 #[.int .i64 c, .int .u8 most] w fun e w' => e = .returned (.bool true) ∧ Below w.heap.size w w' := by
  have HL := Aside0.mk hL
  have HS := Aside0.mk hS
  have Hs := Aside0.mk hs
  have Hs2 := Aside0.mk hs2
  have Hu := Aside0.mk hu
  have Hu2 := Aside0.mk hu2
  have HM := Aside0.mk hm
  clear hL hS hs hs2 hu hu2 hm
  have hnil : ∀ W : World, (binOp .eql 32 (.func (.func 25) #[] #[]) .nilFunc).run Try.prog W = .ok (.bool false) W := fun W => by kernel_rfl
  refine (callsIn_wide (n := 4)).1 ?_
  refine callsIn_of_wp_marks Try.func4 rfl trivial ?_ rfl
  simp only [Try.ntmps4, List.size_toArray, List.length_cons, List.length_nil, Nat.reduceAdd, Nat.reduceSub, Array.replicate_succ, Array.replicate_zero, List.push_toArray, List.append_toArray, List.nil_append, List.cons_append]
  gi_wp2_with fail
  refine ⟨trivial, (class_Of.all_in _).mono ?_⟩
  rintro e w4 ⟨rfl, rfl⟩
  gi_wp2_with fail
  refine ⟨trivial, ((callsIn_wide (n := 3)).2 (atticlaw11_live.calls _ _ HL.out)).mono ?_⟩
  rintro e w1 ⟨rfl, hb⟩
  have hz : w.heap.size + 1 < w1.heap.size := by have := hb.size; simp at this; omega
  have K1 := Aside0.mk ((((Below.refl _ w).alloc (Nat.le_refl _) (.cells #[.int .u8 most] 5)).alloc (by simp) (.cells #[.bool false] 4)).trans (hb.mono (by simp; omega)))
  have B3 := Aside0.mk (class_Of.boxed_below ((Boxed.new w 5 (.int .u8 most)).alloc (.cells #[.bool false] 4)) hb)
  have B4 := Aside0.mk (class_Of.boxed_below (Boxed.new (w.alloc (.cells #[.int .u8 most] 5)) 4 (.bool false)) hb)
  clear hb
  obtain ⟨g3, hg3⟩ : ∃ g, g = w.heap.size := ⟨_, rfl⟩
  simp only [World.size_alloc, ← hg3] at B3 B4 hz ⊢
  gi_wp2_with fail
  have K2 := Aside0.mk (below_alloc K1.out (.cells #[.int .i64 0] 3))
  have C3 := Aside0.mk (B3.out.alloc (.cells #[.int .i64 0] 3))
  have C4 := Aside0.mk (B4.out.alloc (.cells #[.int .i64 0] 3))
  have C6 := Aside0.mk (Boxed.new w1 3 (.int .i64 0))
  have GZ := Aside0.mk (show w.heap.size ≤ g3 ∧ g3 + 1 < w1.heap.size by omega)
  obtain ⟨g6, hg6⟩ : ∃ g, g = w1.heap.size := ⟨_, rfl⟩
  have hsz : (w1.alloc (.cells #[.int .i64 0] 3)).heap.size = g6 + 1 := by simp [hg6]
  have GK := Aside0.mk (show w.heap.size ≤ g6 by have := GZ.out; omega)
  simp only [← hg6] at C6 GZ ⊢
  generalize w1.alloc (.cells #[.int .i64 0] 3) = w3 at C3 C4 C6 K2 hsz ⊢
  clear B3 B4 K1 hz hg6 hg3
  refine wpIn_rangeFunc_ownF rfl (by omega) (gf := 25) (lb := #[]) rfl trivial (enters_of Try.func25 (by kernel_rfl) rfl) (class_Of.all_stops 3 w.heap.size (by omega) _) belowK_t (belowK_b K2.out.size) (Below.refl _ _) (fun _ => rfl)
    (I w (g3 + 1) g6 g3 most) (Ix w (g3 + 1) g6 g3 most) ?own ?ownx ?start
    (fun x => { tmps := #[.int .i64 c, .int .u8 most, undef, .pointer (some ⟨g3, 0, none⟩), .pointer (some ⟨g3 + 1, 0, none⟩), .func (.func 25) #[] #[], .pointer (some ⟨g6, 0, none⟩), .int .i64 x, .int .i64 (class_Of.slot x), .func (.func 25) #[] #[], .bool true, .bool false, .bool false, .func (.func 25) #[] #[], .bool false, .bool false, .func (.func 25) #[] #[], .int .i64 x, .int .i64 (class_Of.slot x), undef, undef, undef, undef, undef, undef, undef, undef, undef, undef, undef, undef, undef, undef, undef, undef, undef, undef, undef, undef, undef, undef, undef, undef, undef, undef, undef, undef, undef, undef, undef, undef, undef, undef], defers := [] }) ?assign ?body ?done ?stop
  case own => exact fun s A B row hs hg hr => ⟨hs.1, class_Of.boxed_own hs.2.1 hg hr, class_Of.boxed_own hs.2.2.1 hg hr, class_Of.boxed_own hs.2.2.2.1 hg hr, class_Of.below_own hs.2.2.2.2 hg hr K2.out.size⟩
  case ownx =>
    intro c s A B row hs hg hr
    rcases hs with ⟨hc, p, x, h1, h2, h3, h4, h5, h6⟩ | h
    · exact .inl ⟨hc, p, x, h1, h2, class_Of.boxed_own h3 hg hr, class_Of.boxed_own h4 hg hr, class_Of.boxed_own h5 hg hr, class_Of.below_own h6 hg hr K2.out.size⟩
    · exact .inr h
  case start => exact ⟨by have := HM.out; simp; omega, C6.out, C3.out, C4.out, K2.out⟩
  case assign =>
    intro l x W K hK
    gi_wp2_with ((rw [Oper.semAt_eq _ _ _ (fun c h => by cases h)]; go_simp; try go_bits))
    exact hK
  case body =>
    rintro l pre x W ⟨hp, b6, b3, b4, kb⟩ hlen
    have hc3 := b3.cell
    have hc4 := b4.cell
    have hc6 := b6.cell
    have hf3 := b3.frozen
    have hf4 := b4.frozen
    have hf6 := b6.frozen
    have hm0 := HM.out
    have hl : pre.length < 6 := hlen
    have hcv : IntKind.i64.wrap most = most := by rw [i64_w]; unfold wrap64; omega
    by_cases h1 : (pre.length : Int) < most
    · have h1b : decide ((pre.length : Int) ≥ most) = false := decide_eq_false (by omega)
      by_cases hx : x = pre.length
      · subst hx
        have hne : ((pre.length : Int) != (pre.length : Int)) = false := by simp
        gi_wp2_with ((rw [Oper.semAt_eq _ _ _ (fun c h => by cases h)]; go_simp; try go_bits))
        refine ⟨trivial, CallsIn.inRound l (((callsIn_wide (n := 1)).2 (atticref11_Slot.calls k _ _ W (HS.out pre.length hl))).mono ?_)⟩
        rintro e w5 ⟨rfl, ⟨nd, rfl⟩⟩
        have hs0 : (class_Of.slot pre.length != class_Of.slot pre.length) = false := by simp
        have hw1 : IntKind.i64.wrap ((pre.length : Int) + 1) = (pre.length : Int) + 1 := by rw [i64_w]; unfold wrap64; omega
        gi_wp2_with ((rw [Oper.semAt_eq _ _ _ (fun c h => by cases h)]; go_simp; try go_bits))
        have s6 := (boxed_drewN b6 nd).set (.int .i64 ((pre.length : Int) + 1))
        have s3 := class_Of.boxed_set_far (boxed_drewN b3 nd) g6 (.int .i64 ((pre.length : Int) + 1)) (by have := GZ.out; omega)
        have s4 := class_Of.boxed_set_far (boxed_drewN b4 nd) g6 (.int .i64 ((pre.length : Int) + 1)) (by have := GZ.out; omega)
        refine ⟨(keeps_drewN W nd).trans (KeepsOthers.setCell _ _ _), (pw_below_drewN (Below.refl _ W) nd).setCell (p := ⟨g6, 0, none⟩) GK.out _, ?_, ?_, s3, s4, (pw_below_drewN kb nd).setCell (p := ⟨g6, 0, none⟩) GK.out _⟩
        · rw [List.length_append]; simp; omega
        · rw [List.length_append]; simpa using s6
      · have hne : ((x : Int) != (pre.length : Int)) = true := by rw [bne_iff_ne]; omega
        have hne2 : (x != pre.length) = true := by rw [bne_iff_ne]; exact hx
        have hne3 : (x == pre.length) = false := by rw [beq_eq_false_iff_ne]; exact hx
        have hne4 : (x = pre.length) = False := eq_false hx
        clear hx
        gi_wp2_with ((rw [Oper.semAt_eq _ _ _ (fun c h => by cases h)]; go_simp; try go_bits))
        refine ⟨trivial, ?_⟩
        gi_wp2_with ((rw [Oper.semAt_eq _ _ _ (fun c h => by cases h)]; go_simp; try go_bits))
        exact ⟨KeepsOthers.setCell _ _ _, .inr ⟨rfl, pre, x, rfl, of_eq_false hne4⟩⟩
    · have h1b : decide ((pre.length : Int) ≥ most) = true := decide_eq_true (by omega)
      gi_wp2_with ((rw [Oper.semAt_eq _ _ _ (fun c h => by cases h)]; go_simp; try go_bits))
      exact ⟨KeepsOthers.refl _, .inl ⟨rfl, pre, x, rfl, by omega, (by rw [show (pre.length : Int) = pre.length from rfl]; exact b6), b3, b4, kb⟩⟩
  case done =>
    rintro D xs W hD rfl ⟨hp, b6, b3, b4, kb⟩ hK
    have hm0 := HM.out
    simp only [List.length_range] at hp b6
    have hc3 := b3.cell
    have hc6 := b6.cell
    have hf4 := b4.frozen
    have hc4 := b4.cell
    have hcv : IntKind.i64.wrap most = most := by rw [i64_w]; unfold wrap64; omega
    have hn6 : ((6 : Nat) : Int) = 6 := rfl
    rw [hn6] at hp hc6
    clear hn6
    have hT : min most 6 = 6 := by omega
    have hd : (if most ≤ 6 then most else 6) = 6 := by split <;> omega
    rcases (show most = 6 ∨ 6 < most by omega) with h6 | h6
    · subst h6
      clear hT hd
      gi_wp2_with fail
      refine ⟨trivial, ((callsIn_wide (n := 3)).2 (class_Slot.calls _ _ _ Hs.out)).mono ?_⟩
      rintro e w5 ⟨rfl, ⟨n1, rfl⟩⟩
      gi_wp2_with fail
      refine ⟨trivial, ((callsIn_wide (n := 3)).2 (atticref11_Slot.calls k _ _ _ Hs2.out)).mono ?_⟩
      rintro e w5 ⟨rfl, ⟨n2, rfl⟩⟩
      gi_wp2_with fail
      refine ⟨trivial, ((callsIn_wide (n := 3)).2 (class_Slots.calls _ _ _ Hu.out)).mono ?_⟩
      rintro e w5 ⟨rfl, ⟨n3, rfl⟩⟩
      gi_wp2_with fail
      refine ⟨trivial, ((callsIn_wide (n := 3)).2 (atticref11_Slots.calls k _ _ _ Hu2.out)).mono ?_⟩
      rintro e w5 ⟨rfl, ⟨n4, rfl⟩⟩
      gi_wp2_with fail
      have hK' := ((keeps_drewN W (n1 + n2 + n3 + n4)).trans (KeepsOthers.setCell _ ⟨g3 + 1, 0, none⟩ (.bool true))).same D _ hK rfl
      refine ⟨by simp, .inl ⟨_, _, rfl, run_takeDeferred hK', ?_⟩⟩
      have s4 := (boxed_drewN b4 (n1 + n2 + n3 + n4)).set (.bool true)
      have e4 := (class_Of.boxed_own s4 (grownBy_putObj' _ D (.deferred none)) (fun r e => by cases e; exact ⟨Nat.le_refl _, _, hK', rfl⟩)).cell
      have kb2 := class_Of.below_own ((pw_below_drewN kb (n1 + n2 + n3 + n4)).setCell (p := ⟨g3 + 1, 0, none⟩) (by have := GZ.out; show w.heap.size ≤ g3 + 1; omega) (.bool true)) (grownBy_putObj' _ D (.deferred none)) (fun r e => by cases e; exact ⟨Nat.le_refl _, _, hK', rfl⟩) (Nat.le_trans K2.out.size hD)
      refine ⟨.bool true, ?_, rfl, kb2⟩
      simp [results, Try.f4, go_sem, e4]
    · have h7 : ¬ most ≤ 6 := by omega
      have h8 : decide (most ≤ 6) = false := decide_eq_false h7
      clear hT hd hp
      gi_wp2_with fail
      refine ⟨trivial, ((callsIn_wide (n := 3)).2 (class_Slot.calls _ _ _ Hs.out)).mono ?_⟩
      rintro e w5 ⟨rfl, ⟨n1, rfl⟩⟩
      gi_wp2_with fail
      refine ⟨trivial, ((callsIn_wide (n := 3)).2 (atticref11_Slot.calls k _ _ _ Hs2.out)).mono ?_⟩
      rintro e w5 ⟨rfl, ⟨n2, rfl⟩⟩
      gi_wp2_with fail
      refine ⟨trivial, ((callsIn_wide (n := 3)).2 (class_Slots.calls _ _ _ Hu.out)).mono ?_⟩
      rintro e w5 ⟨rfl, ⟨n3, rfl⟩⟩
      gi_wp2_with fail
      refine ⟨trivial, ((callsIn_wide (n := 3)).2 (atticref11_Slots.calls k _ _ _ Hu2.out)).mono ?_⟩
      rintro e w5 ⟨rfl, ⟨n4, rfl⟩⟩
      gi_wp2_with fail
      have hK' := ((keeps_drewN W (n1 + n2 + n3 + n4)).trans (KeepsOthers.setCell _ ⟨g3 + 1, 0, none⟩ (.bool true))).same D _ hK rfl
      refine ⟨by simp, .inl ⟨_, _, rfl, run_takeDeferred hK', ?_⟩⟩
      have s4 := (boxed_drewN b4 (n1 + n2 + n3 + n4)).set (.bool true)
      have e4 := (class_Of.boxed_own s4 (grownBy_putObj' _ D (.deferred none)) (fun r e => by cases e; exact ⟨Nat.le_refl _, _, hK', rfl⟩)).cell
      have kb2 := class_Of.below_own ((pw_below_drewN kb (n1 + n2 + n3 + n4)).setCell (p := ⟨g3 + 1, 0, none⟩) (by have := GZ.out; show w.heap.size ≤ g3 + 1; omega) (.bool true)) (grownBy_putObj' _ D (.deferred none)) (fun r e => by cases e; exact ⟨Nat.le_refl _, _, hK', rfl⟩) (Nat.le_trans K2.out.size hD)
      refine ⟨.bool true, ?_, rfl, kb2⟩
      simp [results, Try.f4, go_sem, e4]
  case stop =>
    rintro D c' pre W hD ⟨j, hj, rfl⟩ hix hK
    rcases hix with ⟨rfl, p, x, hpx, hp, b6, b3, b4, kb⟩ | ⟨rfl, p, x, hpx, hx⟩
    · have hjp : j = p.length + 1 := by have := congrArg List.length hpx; simpa using this
      subst hjp
      obtain ⟨m, hm⟩ : ∃ m : Nat, m = p.length := ⟨_, rfl⟩
      rw [← hm] at hp b6 hj
      subst hp
      clear hpx hm
      have hm0 := HM.out
      have hc3 := b3.cell
      have hc6 := b6.cell
      have hf4 := b4.frozen
      have hc4 := b4.cell
      have hcv : IntKind.i64.wrap (m : Int) = (m : Int) := by rw [i64_w]; unfold wrap64; omega
      have hle : (m : Int) ≤ 6 := by omega
      have h8 : decide ((m : Int) ≤ 6) = true := decide_eq_true hle
      clear hj
      gi_wp2_with fail
      refine ⟨trivial, ((callsIn_wide (n := 3)).2 (class_Slot.calls _ _ _ Hs.out)).mono ?_⟩
      rintro e w5 ⟨rfl, ⟨n1, rfl⟩⟩
      gi_wp2_with fail
      refine ⟨trivial, ((callsIn_wide (n := 3)).2 (atticref11_Slot.calls k _ _ _ Hs2.out)).mono ?_⟩
      rintro e w5 ⟨rfl, ⟨n2, rfl⟩⟩
      gi_wp2_with fail
      refine ⟨trivial, ((callsIn_wide (n := 3)).2 (class_Slots.calls _ _ _ Hu.out)).mono ?_⟩
      rintro e w5 ⟨rfl, ⟨n3, rfl⟩⟩
      gi_wp2_with fail
      refine ⟨trivial, ((callsIn_wide (n := 3)).2 (atticref11_Slots.calls k _ _ _ Hu2.out)).mono ?_⟩
      rintro e w5 ⟨rfl, ⟨n4, rfl⟩⟩
      gi_wp2_with fail
      have hK' := ((keeps_drewN W (n1 + n2 + n3 + n4)).trans (KeepsOthers.setCell _ ⟨g3 + 1, 0, none⟩ (.bool true))).same D _ hK rfl
      refine ⟨by simp, .inl ⟨_, _, rfl, run_takeDeferred hK', ?_⟩⟩
      have s4 := (boxed_drewN b4 (n1 + n2 + n3 + n4)).set (.bool true)
      have e4 := (class_Of.boxed_own s4 (grownBy_putObj' _ D (.deferred none)) (fun r e => by cases e; exact ⟨Nat.le_refl _, _, hK', rfl⟩)).cell
      have kb2 := class_Of.below_own ((pw_below_drewN kb (n1 + n2 + n3 + n4)).setCell (p := ⟨g3 + 1, 0, none⟩) (by have := GZ.out; show w.heap.size ≤ g3 + 1; omega) (.bool true)) (grownBy_putObj' _ D (.deferred none)) (fun r e => by cases e; exact ⟨Nat.le_refl _, _, hK', rfl⟩) (Nat.le_trans K2.out.size hD)
      refine ⟨.bool true, ?_, rfl, kb2⟩
      simp [results, Try.f4, go_sem, e4]
    · exfalso
      have hjp : j = p.length + 1 := by have := congrArg List.length hpx; simpa using this
      subst hjp
      rw [List.range_succ] at hpx
      obtain ⟨_, hx1⟩ := List.append_inj' hpx rfl
      exact hx (by simpa using hx1.symm)
end Slots
end Go.Proofs.Ytgcgkhgmmphggaa.PAll
