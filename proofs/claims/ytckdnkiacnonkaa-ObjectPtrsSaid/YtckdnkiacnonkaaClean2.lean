/- Data, SetData, Ptr and SetPtr: what each hands back. -/
import Derived.Test.YtckdnkiacnonkaaClean
import Derived.Test.YtckdnkiacnonkaaPAllx10
import Derived.Test.YtckdnkiacnonkaaMem
namespace Go.Proofs.Ytckdnkiacnonkaa.Pure
open Go.RowKit Go.Proofs.Ytckdnkiacnonkaa.PAll Go.Proofs.Ytckdnkiacnonkaa.Mem Go.Proofs.YtckdnkiacnonkaaW.PrintWords Go.Proofs.YtckdnkiacnonkaaW.PrintLast Go.Proofs.YtckdnkiacnonkaaW.PrintMore
set_option linter.unusedVariables false
set_option linter.unusedSimpArgs false

/-- The bytes are an object's. -/
def IsObj (l : List Int) : Prop := Parsed l (pa l) (pb l) (pc l) (pg l)
instance (l : List Int) : Decidable (IsObj l) := decidable_of_iff (16 ≤ l.length ∧ (HD (pa l) (pb l) (pc l) (pg l)).2 = 0 ∧ hdL (pa l) (pb l) (pc l) (pg l) = l.take 16 ∧ l.length = SL (pa l) (pb l) (pc l)) ⟨fun h => ⟨h.1, h.2.1, h.2.2.1, h.2.2.2⟩, fun h => ⟨h.long, h.head, h.same, h.slot⟩⟩
/-- Where an object's data begin, and how many there are. -/
def dfr (l : List Int) : Nat := 16 + 8 * (pb l).toNat
def dn (l : List Int) : Nat := (pc l).toNat
def dX (l : List Int) : List Int := (l.take (dfr l + dn l)).drop (dfr l)
theorem IsObj.nums {l : List Int} (h : IsObj l) : pb l = ((pb l).toNat : Int) ∧ pc l = ((dn l : Nat) : Int) ∧ dfr l + dn l ≤ l.length ∧ l.length ≤ 1024 ∧ 16 ≤ l.length ∧ (pb l).toNat ≤ 126 ∧ (dX l).length = dn l := by
  obtain ⟨s1, s2, s3, s4, s5, s6⟩ := h.shape
  have sb := (chk_ok s1).2.1
  have sc := (chk_ok s1).2.2.1
  have h16 := h.long
  have e1 : pb l = ((pb l).toNat : Int) := by omega
  have e2 : pc l = ((dn l : Nat) : Int) := by unfold dn; omega
  have e3 : dfr l + dn l ≤ l.length := by unfold dfr dn; omega
  refine ⟨e1, e2, e3, s6, h16, by omega, ?_⟩
  unfold dX
  rw [List.length_drop, List.length_take]
  omega
section
variable {A : Option Addr} {c : Nat} {l : List Int} {w : World} (hC : Kd.C (Kd.int .u8) w A l.length l) (hc : l.length ≤ c) (hb : Bytes l) (hl : l.length ≤ 140737488351232)
include hC hc hb hl
theorem data_x (h : IsObj l) : Calls Try.prog 37 #[.slice A l.length c] w fun e w' => e = .returned (.tuple #[.slice (cutA A (dfr l) (dfr l + dn l)) (dX l).length (dX l).length, .int .i64 0]) ∧ Below w.heap.size w w' := by
  obtain ⟨e1, e2, e3, e4, e5, e6, e7⟩ := h.nums
  have := data_yes hC hc hb hl (pb l).toNat (dn l) (dfr l) (dfr l + dn l) e1 e2 rfl rfl h
  rw [show dfr l + dn l - dfr l = (dX l).length by omega] at this
  exact this
set_option maxRecDepth 100000 in
set_option maxHeartbeats 2000000 in
theorem data_no (h : ¬ IsObj l) : Calls Try.prog 37 #[.slice A l.length c] w fun e w' => e = .returned (.tuple #[.slice none 0 0, .int .i64 130]) ∧ Below w.heap.size w w' := by
  have F3 := Aside0.mk (parse_no 1200 l hb hl (by decide) h).1
  have HC := Aside0.mk hC
  have HD := Aside0.mk hc
  clear hC hc hb hl h
  go_enter Try.func37, Try.ntmps37
  go_wp2_with fail
  refine (object_Parse.calls 1200 A c l _ _ _ _ _ w HC.out HD.out F3.out).mono ?_
  rintro e w1 ⟨rfl, hb1⟩
  have K1 := Aside0.mk hb1
  clear hb1
  go_wp2_with fail
  go_ret2
  exact ⟨rfl, K1.out.alloc K1.out.size _⟩
end
/-- Data's answer. -/
def DA (l : List Int) : List Int × Int := if IsObj l then (dX l, 0) else ([], 130)
section
variable {A : Option Addr} {c : Nat} {l : List Int} {w : World} (hC : Kd.C (Kd.int .u8) w A l.length l) (hc : l.length ≤ c) (hb : Bytes l) (hl : l.length ≤ 140737488351232)
include hC hc hb hl
set_option maxRecDepth 100000 in
set_option maxHeartbeats 2000000 in
theorem Data_c {x : List Int} {n : Int} (hx : DA l = (x, n)) : Calls Try.prog 16 #[.slice A l.length c] w (Gives2 w x n) := by
  unfold DA at hx
  by_cases h : IsObj l
  · rw [if_pos h] at hx
    injection hx with hx hn
    subst hx hn
    obtain ⟨e1, e2, e3, e4, e5, e6, e7⟩ := h.nums
    have P1 := Aside0.mk (data_x hC hc hb hl h)
    have HX := Aside0.mk (cut_C hC (fr := dfr l) (tt := dfr l + dn l) (by omega) e3)
    have CL := Aside0.mk (show bytes_Clone.f (dX l) = some (dX l) by unfold bytes_Clone.f; rw [if_pos (by omega)])
    have X7 := Aside0.mk e7
    obtain ⟨x, hx⟩ : ∃ x, x = dX l := ⟨_, rfl⟩
    have HXX : Kd.C (Kd.int .u8) w (cutA A (dfr l) (dfr l + dn l)) (dX l).length (dX l) := by
      have h3 := HX.out
      rw [Nat.add_sub_cancel_left] at h3
      rw [e7]
      exact h3
    obtain ⟨B, hB⟩ : ∃ B, B = cutA A (dfr l) (dfr l + dn l) := ⟨_, rfl⟩
    have P2 := P1.out
    have CLL := CL.out
    rw [← hx, ← hB] at P2 HXX
    rw [← hx] at CLL
    rw [← hx]
    have P := Aside0.mk P2
    have XC := Aside0.mk HXX
    have CF := Aside0.mk CLL
    clear hC hc hb hl h e1 e2 e3 e4 e5 e6 e7 P1 HX CL X7 hx hB P2 HXX CLL
    go_enter Try.func16, Try.ntmps16
    go_wp2_with fail
    refine P.out.mono ?_
    rintro e w1 ⟨rfl, hb1⟩
    have K1 := Aside0.mk hb1
    have X1 := Aside0.mk (Kd.C_below XC.out hb1)
    clear hb1
    go_wp2_with fail
    refine (bytes_Clone.calls B _ x _ _ X1.out (Nat.le_refl _) CF.out).mono ?_
    rintro e w2 ⟨v, rfl, ho, hb2⟩
    have H2 := Aside0.mk ho
    have K2 := Aside0.mk (K1.out.trans (hb2.mono K1.out.size))
    clear ho hb2
    go_wp2_with fail
    go_ret2
    exact gives2_of H2.out K2.out
  · rw [if_neg h] at hx
    injection hx with hx hn
    subst hx hn
    have P := Aside0.mk (data_no hC hc hb hl h)
    clear hC hc hb hl h
    go_enter Try.func16, Try.ntmps16
    go_wp2_with fail
    refine P.out.mono ?_
    rintro e w1 ⟨rfl, hb1⟩
    have K1 := Aside0.mk hb1
    clear hb1
    go_wp2_with fail
    go_ret2
    exact ⟨none, 0, rfl, Nat.le_refl _, Kd.C_nil _ _, K1.out⟩
end
end Go.Proofs.Ytckdnkiacnonkaa.Pure
