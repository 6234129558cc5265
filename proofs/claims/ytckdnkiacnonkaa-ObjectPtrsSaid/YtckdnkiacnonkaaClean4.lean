/- pointer, Ptr and SetPtr: what each hands back. -/
import Derived.Test.YtckdnkiacnonkaaRefs
namespace Go.Proofs.Ytckdnkiacnonkaa.Pure
open Go.RowKit Go.Proofs.Ytckdnkiacnonkaa.PAll Go.Proofs.Ytckdnkiacnonkaa.Mem Go.Proofs.YtckdnkiacnonkaaW.PrintWords Go.Proofs.YtckdnkiacnonkaaW.PrintLast Go.Proofs.YtckdnkiacnonkaaW.PrintMore
set_option linter.unusedVariables false
set_option linter.unusedSimpArgs false

/-- How many pointers an object has. -/
def pn (l : List Int) : Nat := (pb l).toNat
theorem IsObj.pn {l : List Int} (h : IsObj l) : pb l = ((Pure.pn l : Nat) : Int) ∧ 16 + 8 * Pure.pn l ≤ l.length ∧ l.length ≤ 1024 ∧ Pure.pn l ≤ 126 := by
  obtain ⟨e1, e2, e3, e4, e5, e6, e7⟩ := h.nums
  refine ⟨e1, ?_, e4, e6⟩
  unfold dfr at e3
  unfold Pure.pn
  omega
theorem ptrAt_in {a b c i : Int} (h : chk a b c = 0) (h0 : 0 ≤ i) (h1 : i < b) : class_PtrAt.f a b c i = some (16 + 8 * i) ∧ atticref11_PtrAt.f a b c i = some (16 + 8 * i) := by
  have h2 := (chk_ok h).2.1
  unfold class_PtrAt.f atticref11_PtrAt.f
  rw [chk_r, chk_w, h]
  simp only [Option.bind_some, if_true]
  rw [if_neg (by omega), if_neg (by omega), w64id (x := 8 * i) (by omega) (by omega), w64id (by omega) (by omega)]
  exact ⟨rfl, rfl⟩
theorem ptrAt_out {a b c i : Int} (h : chk a b c = 0) (h1 : i < 0 ∨ i ≥ b) : class_PtrAt.f a b c i = some (-1) := by
  unfold class_PtrAt.f
  rw [chk_w, h]
  simp only [Option.bind_some, if_true]
  by_cases h0 : i < 0
  · rw [if_pos h0]
  · rw [if_neg h0, if_pos (by omega)]
section
variable {A : Option Addr} {c : Nat} {l : List Int} {w : World} (hC : Kd.C (Kd.int .u8) w A l.length l) (hc : l.length ≤ c) (hb : Bytes l) (hl : l.length ≤ 140737488351232)
include hC hc hb hl
set_option maxRecDepth 100000 in
set_option maxHeartbeats 2000000 in
theorem pointer_yes (h : IsObj l) (i fr : Nat) (hi : i < pn l) (hfr : fr = 16 + 8 * i) : Calls Try.prog 40 #[.slice A l.length c, .int .i64 i] w fun e w' => e = .returned (.tuple #[.slice (cutA A fr (fr + 8)) 8 8, .int .i64 0]) ∧ Below w.heap.size w w' := by
  obtain ⟨e1, e2, e3, e4⟩ := h.pn
  have F1 := Aside0.mk (show class_PtrAt.f (pa l) (pb l) (pc l) i = some (fr : Int) by rw [(ptrAt_in h.shape.1 (by omega) (by omega)).1, hfr]; congr 1)
  have F3 := Aside0.mk (parse_yes 1200 l hb hl (by decide) h).1
  have hcut := cut_run A l.length c fr (fr + 8) (by omega) (by omega) hc
  rw [Nat.add_sub_cancel_left] at hcut
  have hcut' : ∀ W : World, (Instr.slice 24 (.slice A l.length c) (some (.int .i64 (fr : Int))) (some (.int .i64 ((fr : Int) + 8))) (some (.int .i64 ((fr : Int) + 8)))).run Try.prog W = .ok (.slice (cutA A fr (fr + 8)) 8 8) W := hcut
  obtain ⟨B, hB⟩ : ∃ B, B = cutA A fr (fr + 8) := ⟨_, rfl⟩
  rw [← hB] at hcut' ⊢
  have HC := Aside0.mk hC
  have HD := Aside0.mk hc
  obtain ⟨a, ha⟩ : ∃ a, a = pa l := ⟨_, rfl⟩
  obtain ⟨b, hb'⟩ : ∃ b, b = pb l := ⟨_, rfl⟩
  obtain ⟨d, hd⟩ : ∃ d, d = pc l := ⟨_, rfl⟩
  obtain ⟨g, hg⟩ : ∃ g, g = pg l := ⟨_, rfl⟩
  rw [← ha, ← hb', ← hd, ← hg] at F3
  rw [← ha, ← hb', ← hd] at F1
  have hf2 : fr ≤ 2000 := by omega
  have hneg : decide ((fr : Int) < 0) = false := decide_eq_false (by omega)
  clear hC hc hb hl h hi hfr e1 e2 e3 e4 hcut hB ha hb' hd hg
  go_enter Try.func40, Try.ntmps40
  go_wp2_with fail
  refine (object_Parse.calls 1200 A c l _ _ _ _ _ w HC.out HD.out F3.out).mono ?_
  rintro e w1 ⟨rfl, hb1⟩
  have K1 := Aside0.mk hb1
  clear hb1
  go_wp2_with fail
  refine (class_PtrAt.calls a b d _ _ _ F1.out).mono ?_
  rintro e w2 ⟨rfl, hb2⟩
  have K2 := Aside0.mk ((K1.out.alloc K1.out.size _).trans (hb2.mono (Nat.le_trans K1.out.size (by simp))))
  clear hb2
  go_wp2_with fail
  go_ret2
  exact ⟨rfl, K2.out⟩
set_option maxRecDepth 100000 in
set_option maxHeartbeats 2000000 in
theorem pointer_out (h : IsObj l) (i : Int) (hi : i < 0 ∨ i ≥ (pn l : Int)) : Calls Try.prog 40 #[.slice A l.length c, .int .i64 i] w fun e w' => e = .returned (.tuple #[.slice none 0 0, .int .i64 131]) ∧ Below w.heap.size w w' := by
  obtain ⟨e1, e2, e3, e4⟩ := h.pn
  have F1 := Aside0.mk (ptrAt_out h.shape.1 (i := i) (by omega))
  have F3 := Aside0.mk (parse_yes 1200 l hb hl (by decide) h).1
  have HC := Aside0.mk hC
  have HD := Aside0.mk hc
  obtain ⟨a, ha⟩ : ∃ a, a = pa l := ⟨_, rfl⟩
  obtain ⟨b, hb'⟩ : ∃ b, b = pb l := ⟨_, rfl⟩
  obtain ⟨d, hd⟩ : ∃ d, d = pc l := ⟨_, rfl⟩
  obtain ⟨g, hg⟩ : ∃ g, g = pg l := ⟨_, rfl⟩
  rw [← ha, ← hb', ← hd, ← hg] at F3
  rw [← ha, ← hb', ← hd] at F1
  clear hC hc hb hl h hi e1 e2 e3 e4 ha hb' hd hg
  go_enter Try.func40, Try.ntmps40
  go_wp2_with fail
  refine (object_Parse.calls 1200 A c l _ _ _ _ _ w HC.out HD.out F3.out).mono ?_
  rintro e w1 ⟨rfl, hb1⟩
  have K1 := Aside0.mk hb1
  clear hb1
  go_wp2_with fail
  refine (class_PtrAt.calls a b d _ _ _ F1.out).mono ?_
  rintro e w2 ⟨rfl, hb2⟩
  have K2 := Aside0.mk ((K1.out.alloc K1.out.size _).trans (hb2.mono (Nat.le_trans K1.out.size (by simp))))
  clear hb2
  go_wp2_with fail
  go_ret2
  exact ⟨rfl, K2.out⟩
set_option maxRecDepth 100000 in
set_option maxHeartbeats 2000000 in
theorem pointer_no (h : ¬ IsObj l) (i : Int) : Calls Try.prog 40 #[.slice A l.length c, .int .i64 i] w fun e w' => e = .returned (.tuple #[.slice none 0 0, .int .i64 130]) ∧ Below w.heap.size w w' := by
  have F3 := Aside0.mk (parse_no 1200 l hb hl (by decide) h).1
  have HC := Aside0.mk hC
  have HD := Aside0.mk hc
  clear hC hc hb hl h
  go_enter Try.func40, Try.ntmps40
  go_wp2_with fail
  refine (object_Parse.calls 1200 A c l _ _ _ _ _ w HC.out HD.out F3.out).mono ?_
  rintro e w1 ⟨rfl, hb1⟩
  have K1 := Aside0.mk hb1
  clear hb1
  go_wp2_with fail
  go_ret2
  exact ⟨rfl, K1.out.alloc K1.out.size _⟩
end
/-- Ptr's answer. -/
def PT (l : List Int) (i : Int) : Int × Int := if IsObj l then (if i < 0 ∨ i ≥ (pn l : Int) then (0, 131) else ((getL l (16 + 8 * i.toNat) 8 : Nat), 0)) else (0, 130)
/-- SetPtr's answer. -/
def SP (l : List Int) (i : Int) (v : Int) : List Int × Int := if IsObj l then (if i < 0 ∨ i ≥ (pn l : Int) then ([], 131) else (over l (16 + 8 * i.toNat) (numL 8 v.toNat), 0)) else ([], 130)
section
variable {A : Option Addr} {c : Nat} {l : List Int} {w : World} (hC : Kd.C (Kd.int .u8) w A l.length l) (hc : l.length ≤ c) (hb : Bytes l) (hl : l.length ≤ 140737488351232)
include hC hc hb hl
set_option maxRecDepth 100000 in
set_option maxHeartbeats 2000000 in
theorem Ptr_c {i v n : Int} (hr : PT l i = (v, n)) : Calls Try.prog 20 #[.slice A l.length c, .int .i64 i] w fun e w' => e = .returned (.tuple #[.int .u64 v, .int .i64 n]) ∧ Below w.heap.size w w' := by
  unfold PT at hr
  by_cases h : IsObj l
  case neg =>
    rw [if_neg h] at hr
    injection hr with hr hn
    subst hr hn
    have P := Aside0.mk (pointer_no hC hc hb hl h i)
    clear hC hc hb hl h
    go_enter Try.func20, Try.ntmps20
    go_wp2_with fail
    refine P.out.mono ?_
    rintro e w1 ⟨rfl, hb1⟩
    have K1 := Aside0.mk hb1
    clear hb1
    go_wp2_with fail
    go_ret2
    exact ⟨rfl, K1.out⟩
  rw [if_pos h] at hr
  by_cases hi : i < 0 ∨ i ≥ (pn l : Int)
  · rw [if_pos hi] at hr
    injection hr with hr hn
    subst hr hn
    have P := Aside0.mk (pointer_out hC hc hb hl h i hi)
    clear hC hc hb hl h hi
    go_enter Try.func20, Try.ntmps20
    go_wp2_with fail
    refine P.out.mono ?_
    rintro e w1 ⟨rfl, hb1⟩
    have K1 := Aside0.mk hb1
    clear hb1
    go_wp2_with fail
    go_ret2
    exact ⟨rfl, K1.out⟩
  · rw [if_neg hi] at hr
    obtain ⟨p, rfl⟩ := Int.eq_ofNat_of_zero_le (show 0 ≤ i by omega)
    injection hr with hr hn
    subst hr hn
    rw [Int.toNat_natCast]
    obtain ⟨e1, e2, e3, e4⟩ := h.pn
    have P0 := pointer_yes hC hc hb hl h p (16 + 8 * p) (by omega) rfl
    have HX0 := cut_C hC (fr := 16 + 8 * p) (tt := 16 + 8 * p + 8) (by omega) (by omega)
    obtain ⟨x, hx⟩ : ∃ x, x = (l.take (16 + 8 * p + 8)).drop (16 + 8 * p) := ⟨_, rfl⟩
    have hxl : x.length = 8 := by rw [hx, List.length_drop, List.length_take]; omega
    have hxb : Bytes x := by rw [hx]; exact fun y hy => hb y (List.mem_of_mem_take (List.mem_of_mem_drop hy))
    rw [← hx, Nat.add_sub_cancel_left, ← hxl] at HX0
    have G := Aside0.mk (show word_Get.f 10 x 0 8 = some (((getL l (16 + 8 * p) 8 : Nat) : Int), true) by
      rw [(get_f 10 x 0 8 hxb (by omega) (by decide)).1]
      unfold getA
      rw [if_neg (by rw [hxl]; decide)]
      congr 2
      unfold getL
      rw [show (0 : Int).toNat = 0 from rfl, show (8 : Int).toNat = 8 from rfl, List.drop_zero, List.take_of_length_le (by omega), hx, ← List.take_drop])
    obtain ⟨B, hB⟩ : ∃ B, B = cutA A (16 + 8 * p) (16 + 8 * p + 8) := ⟨_, rfl⟩
    rw [← hB] at P0
    have HX1 : Kd.C (Kd.int .u8) w B x.length x := by rw [hB]; have := HX0; rw [hxl] at this ⊢; exact this
    obtain ⟨z, hz⟩ : ∃ z : Int, z = ((getL l (16 + 8 * p) 8 : Nat) : Int) := ⟨_, rfl⟩
    rw [← hz] at G ⊢
    rw [← hxl] at P0
    have P := Aside0.mk P0
    have X := Aside0.mk HX1
    clear hC hc hb hl h hi P0 HX0 HX1 hx hxl hxb hB hz e1 e2 e3 e4
    go_enter Try.func20, Try.ntmps20
    go_wp2_with fail
    refine P.out.mono ?_
    rintro e w1 ⟨rfl, hb1⟩
    have K1 := Aside0.mk hb1
    have X1 := Aside0.mk (Kd.C_below X.out hb1)
    clear hb1
    go_wp2_with fail
    refine (word_Get.calls 10 B _ x _ _ _ _ _ X1.out (Nat.le_refl _) G.out).mono ?_
    rintro e w2 ⟨rfl, hb2⟩
    have K2 := Aside0.mk (K1.out.trans ((drawn_below hb2).mono K1.out.size))
    clear hb2
    go_wp2_with fail
    go_ret2
    exact ⟨rfl, K2.out⟩
end
end Go.Proofs.Ytckdnkiacnonkaa.Pure
