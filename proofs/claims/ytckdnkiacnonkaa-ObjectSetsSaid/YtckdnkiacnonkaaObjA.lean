/- Parses, data and pointers of an object's bytes: the plain laws and the contracts. -/
import Derived.Test.YtckdnkiacnonkaaLive
import Derived.Test.YtckdnkiacnonkaaObjP
import Derived.Test.YtckdnkiacnonkaaPAlly11
import Derived.Deep.RegionHeld3
import Derived.Laws.CopyOwn
import Derived.Test.YtckdnkiacnonkaaPAllx10
import Derived.Test.YtckdnkiacnonkaaMem
namespace Go.Proofs.Ytckdnkiacnonkaa.Pure
open Go.RowKit Go.Proofs.Ytckdnkiacnonkaa.PAll Go.Proofs.YtckdnkiacnonkaaW.PrintWords Go.Proofs.YtckdnkiacnonkaaW.PrintLast Go.Proofs.YtckdnkiacnonkaaW.PrintMore Go.Proofs.Ytckdnkiacnonkaa.Mem

/-- The bytes are those of an object of that shape and number. -/
structure Parsed (l : List Int) (a b c g : Int) : Prop where
  long : 16 ≤ l.length
  head : (HD a b c g).2 = 0
  same : hdL a b c g = l.take 16
  slot : l.length = SL a b c
def pa (l : List Int) : Int := wrap64 (rd l 0)
def pb (l : List Int) : Int := wrap64 (rd l 1)
def pc (l : List Int) : Int := wrap64 (getA l 2 2).1
def pg (l : List Int) : Int := wrap64 (getA l 8 8).1
theorem parse_yes (k : Nat) (l : List Int) (hb : Bytes l) (hl : l.length ≤ 140737488351232) (hk : 1200 ≤ k) (h : Parsed l (pa l) (pb l) (pc l) (pg l)) :
    object_Parse.f k l = some (pa l, pb l, pc l, pg l, 0) ∧ atticref13_Parse.f k l = some (pa l, pb l, pc l, pg l, 0) := by
  obtain ⟨h1, h2, h3, h4⟩ := h
  unfold object_Parse.f atticref13_Parse.f pa pb pc pg at *
  have g2 := get_f k l 2 2 hb (by omega) (by omega)
  have g8 := get_f k l 8 8 hb (by omega) (by omega)
  rw [if_neg (by omega), if_neg (by omega), g2.1, g2.2, g8.1, g8.2]
  simp only [Option.bind_some]
  rw [if_pos (by omega : 0 < (l.length : Int)), if_pos (by omega : 1 < (l.length : Int)), if_pos (by omega : 0 < (l.length : Int)), if_pos (by omega : 1 < (l.length : Int))]
  clear g2 g8
  generalize wrap64 (rd l 0) = a at *
  generalize wrap64 (rd l 1) = b at *
  generalize wrap64 (getA l 2 2).1 = c at *
  generalize (getA l 8 8).1 = v at *
  rw [head_w k a b c _ (by omega), head_r k a b c _ (by omega)]
  simp only [Option.bind_some]
  obtain ⟨m, rfl⟩ : ∃ m, k = m + 20 := ⟨k - 20, by omega⟩
  rw [of_r]
  show _ ∧ (if (HD a b c (wrap64 v)).2 = 0 then (if (OF a b c).2 = 0 then _ else _) else _) = _
  obtain ⟨h0, h5⟩ := HD_OF h2
  obtain ⟨n, s, hn, e, hs, hsl, s1, s2⟩ := SL_of h0
  have ht : (l.take 16).length = 16 := by rw [List.length_take]; omega
  rw [if_pos h2, if_pos h2, if_pos h0, if_pos (by omega : 16 ≤ (l.length : Int)), if_pos (by omega : 16 ≤ (l.length : Int)), h5, equal_f _ _ (hdL_bytes _ _ _ _) (fun x hx => hb x (List.mem_of_mem_take hx)), same_f _ _ _ (by rw [hdL_length, ht]) (by rw [hdL_length]; decide) (by omega)]
  simp only [Option.bind_some]
  rw [show m + 20 = (m + 19) + 1 from rfl, object_Parse.j0]
  rw [decide_eq_true h3, if_neg (by decide), of_w]
  show (class_Slot.f (OF a b c).1).bind _ = _ ∧ (atticref11_Slot.f _ (OF a b c).1).bind _ = _
  rw [e, class_Of.slotf n hn, show m + 19 + 1 = (m + 12) + 8 from rfl, slot_r (m + 12) n hn]
  simp only [Option.bind_some]
  rw [if_pos (by rw [hs, h4, hsl])]
  exact ⟨rfl, rfl⟩
theorem parse_no (k : Nat) (l : List Int) (hb : Bytes l) (hl : l.length ≤ 140737488351232) (hk : 1200 ≤ k) (h : ¬ Parsed l (pa l) (pb l) (pc l) (pg l)) :
    object_Parse.f k l = some (0, 0, 0, 0, 130) ∧ atticref13_Parse.f k l = some (0, 0, 0, 0, 130) := by
  unfold object_Parse.f atticref13_Parse.f pa pb pc pg at *
  by_cases h16 : (l.length : Int) < 16
  · rw [if_pos h16, if_pos h16]
    exact ⟨rfl, rfl⟩
  · have g2 := get_f k l 2 2 hb (by omega) (by omega)
    have g8 := get_f k l 8 8 hb (by omega) (by omega)
    rw [if_neg h16, if_neg h16, g2.1, g2.2, g8.1, g8.2]
    simp only [Option.bind_some]
    rw [if_pos (by omega : 0 < (l.length : Int)), if_pos (by omega : 1 < (l.length : Int)), if_pos (by omega : 0 < (l.length : Int)), if_pos (by omega : 1 < (l.length : Int))]
    clear g2 g8
    generalize wrap64 (rd l 0) = a at *
    generalize wrap64 (rd l 1) = b at *
    generalize wrap64 (getA l 2 2).1 = c at *
    generalize (getA l 8 8).1 = v at *
    rw [head_w k a b c _ (by omega), head_r k a b c _ (by omega)]
    simp only [Option.bind_some]
    obtain ⟨m, rfl⟩ : ∃ m, k = m + 20 := ⟨k - 20, by omega⟩
    rw [of_r]
    show _ ∧ (if (HD a b c (wrap64 v)).2 = 0 then (if (OF a b c).2 = 0 then _ else _) else _) = _
    by_cases h2 : (HD a b c (wrap64 v)).2 = 0
    · obtain ⟨h0, h1⟩ := HD_OF h2
      obtain ⟨n, s, hn, e, hs, hsl, s1, s2⟩ := SL_of h0
      have ht : (l.take 16).length = 16 := by rw [List.length_take]; omega
      rw [if_pos h2, if_pos h2, if_pos h0, if_pos (by omega : 16 ≤ (l.length : Int)), if_pos (by omega : 16 ≤ (l.length : Int)), h1, equal_f _ _ (hdL_bytes _ _ _ _) (fun x hx => hb x (List.mem_of_mem_take hx)), same_f _ _ _ (by rw [hdL_length, ht]) (by rw [hdL_length]; decide) (by omega)]
      simp only [Option.bind_some]
      rw [show m + 20 = (m + 19) + 1 from rfl, object_Parse.j0]
      by_cases hq : hdL a b c (wrap64 v) = l.take 16
      · rw [decide_eq_true hq, if_neg (by decide), of_w]
        show (class_Slot.f (OF a b c).1).bind _ = _ ∧ (atticref11_Slot.f _ (OF a b c).1).bind _ = _
        rw [e, class_Of.slotf n hn, show m + 19 + 1 = (m + 12) + 8 from rfl, slot_r (m + 12) n hn]
        simp only [Option.bind_some]
        by_cases hz : (l.length : Int) = class_Of.slot n
        · exact absurd ⟨by omega, h2, hq, by rw [hsl]; omega⟩ h
        · rw [if_neg hz]
          exact ⟨rfl, rfl⟩
      · rw [decide_eq_false hq, if_pos (by decide), if_neg (by decide)]
        exact ⟨rfl, rfl⟩
    · rw [if_neg h2, if_neg h2, show m + 20 = (m + 19) + 1 from rfl, object_Parse.j0, if_pos rfl]
      exact ⟨rfl, rfl⟩
/-- What a shape that was parsed is like. -/
theorem Parsed.shape {l : List Int} {a b c g : Int} (h : Parsed l a b c g) : chk a b c = 0 ∧ (OF a b c).2 = 0 ∧ 1 ≤ g ∧ g ≤ 1099511627776 ∧ 16 + 8 * b + c ≤ (l.length : Int) ∧ l.length ≤ 1024 := by
  obtain ⟨h0, h1⟩ := HD_OF h.head
  obtain ⟨n, s, hn, e, hs, hsl, s1, s2⟩ := SL_of h0
  have hc := OF_chk h0
  have hg : 1 ≤ g ∧ g ≤ 1099511627776 := by
    have := h.head
    unfold HD at this
    rw [if_pos h0] at this
    by_cases hh : 1 ≤ g ∧ g ≤ 1099511627776
    · exact hh
    · rw [if_neg hh] at this
      exact absurd this (by decide : ¬ ((1 : Int) = 0))
  refine ⟨hc, h0, hg.1, hg.2, ?_, by rw [h.slot, hsl]; exact s2⟩
  rw [h.slot, hsl, ← hs]
  have h6 : (OF a b c) = class_Of.ofN (16 + 8 * b + c) := by
    unfold OF sizeN
    rw [if_pos hc, if_pos hc]
  rw [h6] at e h0
  generalize 16 + 8 * b + c = z at e h0 ⊢
  clear h6 h1 hsl h hs
  unfold class_Of.ofN at e h0
  split at e
  · obtain rfl : n = 0 := by simp at e; omega
    show z ≤ 32 * 2 ^ 0
    omega
  split at e
  · obtain rfl : n = 1 := by simp at e; omega
    show z ≤ 32 * 2 ^ 1
    omega
  split at e
  · obtain rfl : n = 2 := by simp at e; omega
    show z ≤ 32 * 2 ^ 2
    omega
  split at e
  · obtain rfl : n = 3 := by simp at e; omega
    show z ≤ 32 * 2 ^ 3
    omega
  split at e
  · obtain rfl : n = 4 := by simp at e; omega
    show z ≤ 32 * 2 ^ 4
    omega
  split at e
  · obtain rfl : n = 5 := by simp at e; omega
    show z ≤ 32 * 2 ^ 5
    omega
  · exfalso
    revert h0
    repeat rw [if_neg (by omega)]
    decide
set_option linter.unusedVariables false
set_option linter.unusedSimpArgs false

def Gives (w : World) (r : List Int) (e : Ending) (w' : World) : Prop := ∃ A c, e = .returned (.slice A r.length c) ∧ r.length ≤ c ∧ Kd.C (Kd.int .u8) w' A r.length r ∧ Below w.heap.size w w'
/-- A row and an error. -/
def Gives2 (w : World) (r : List Int) (n : Int) (e : Ending) (w' : World) : Prop := ∃ A c, e = .returned (.tuple #[.slice A r.length c, .int .i64 n]) ∧ r.length ≤ c ∧ Kd.C (Kd.int .u8) w' A r.length r ∧ Below w.heap.size w w'
theorem gives_of {w w' : World} {v : Value} {r : List Int} {e : Nat} {base : Nat} {ok : Nat → Prop} (ho : Kd.R (Kd.int .u8) e w' base ok v r) (hb : Below w.heap.size w w') : Gives w r (.returned v) w' := by
  obtain ⟨A, c, rfl, hc, hC⟩ := Kd.R_reads ho
  exact ⟨A, c, rfl, hc, hC, hb⟩
theorem gives2_of {w w' : World} {v : Value} {r : List Int} {n : Int} {e : Nat} {base : Nat} {ok : Nat → Prop} (ho : Kd.R (Kd.int .u8) e w' base ok v r) (hb : Below w.heap.size w w') : Gives2 w r n (.returned (.tuple #[v, .int .i64 n])) w' := by
  obtain ⟨A, c, rfl, hc, hC⟩ := Kd.R_reads ho
  exact ⟨A, c, rfl, hc, hC, hb⟩
theorem drawn_below {w w' : World} (h : Drawn0 w w') : Below w.heap.size w w' := by
  obtain ⟨n, rfl⟩ := h.out
  exact pw_below_drewN (Below.refl _ _) n
/-- A part of a row, with a capacity. -/
def cutA (A : Option Addr) (fr tt : Nat) : Option Addr := if tt = fr then A else A.map (·.add fr)
theorem cut_run (A : Option Addr) (n c fr tt : Nat) (h1 : fr ≤ tt) (h2 : tt ≤ n) (hc : n ≤ c) (W : World) : (Instr.slice 24 (.slice A n c) (some (.int .i64 (fr : Int))) (some (.int .i64 (tt : Int))) (some (.int .i64 (tt : Int)))).run Try.prog W = .ok (.slice (cutA A fr tt) (tt - fr) (tt - fr)) W := by
  obtain ⟨i, hi, hz0, hz1, hz2⟩ := info_parts info5
  have hu : Try.prog.underlying 24 = some (.slice (Try.prog.elem 24)) := by rw [show Try.prog.elem 24 = 5 by simp [Program.elem, Try.underlying24]]; exact Try.underlying24
  rw [run_slice_lhm W 24 A n c hu .i64 .i64 .i64 (fr : Int) (tt : Int) (tt : Int) (by omega) (by omega) (by omega) (by omega), show Try.prog.elem 24 = 5 by simp [Program.elem, Try.underlying24]]
  simp [sizeOf, typeInfo, hi, hz1, sliced, cutA, Result.andThen]
theorem cut_C {w : World} {A : Option Addr} {l : List Int} (h : Kd.C (Kd.int .u8) w A l.length l) {fr tt : Nat} (h1 : fr ≤ tt) (h2 : tt ≤ l.length) : Kd.C (Kd.int .u8) w (cutA A fr tt) (tt - fr) ((l.take tt).drop fr) := by
  have h3 := Kd.C_take h h2
  have hl : (l.take tt).length = tt := by rw [List.length_take]; omega
  have h4 := Kd.C_drop (c := tt) h3 (m := fr) (by omega) (by omega)
  rw [List.length_drop, hl] at h4
  have : (Kd.int .u8).sz = 1 := rfl
  rw [this, Nat.mul_one] at h4
  exact h4
section
variable {A : Option Addr} {c : Nat} {l : List Int} {w : World} (hC : Kd.C (Kd.int .u8) w A l.length l) (hc : l.length ≤ c) (hb : Bytes l) (hl : l.length ≤ 140737488351232)
include hC hc hb hl
set_option maxRecDepth 100000 in
set_option maxHeartbeats 2000000 in
theorem data_yes (b d fr tt : Nat) (h1 : pb l = b) (h2 : pc l = d) (hfr : fr = 16 + 8 * b) (hto : tt = fr + d) (hP : Parsed l (pa l) (pb l) (pc l) (pg l)) :
    Calls Try.prog 37 #[.slice A l.length c] w fun e w' => e = .returned (.tuple #[.slice (cutA A fr tt) (tt - fr) (tt - fr), .int .i64 0]) ∧ Below w.heap.size w w' := by
  obtain ⟨s1, s2, s3, s4, s5, s6⟩ := hP.shape
  have sb := (chk_ok s1).2.1
  have sc := (chk_ok s1).2.2.1
  rw [h1] at sb
  rw [h2] at sc
  have hP1 := (parse_yes 1200 l hb hl (by decide) hP).1
  rw [h1, h2] at hP1 s1 s5
  obtain ⟨a, ha⟩ : ∃ a, a = pa l := ⟨_, rfl⟩
  obtain ⟨g, hg⟩ : ∃ g, g = pg l := ⟨_, rfl⟩
  rw [← ha, ← hg] at hP1
  rw [← ha] at s1
  have F1 := Aside0.mk (show class_DataAt.f a b d = some (fr : Int) by unfold class_DataAt.f; rw [chk_w, s1]; simp only [Option.bind_some, if_true]; rw [w64id (x := 8 * (b : Int)) (by omega) (by omega), w64id (by omega) (by omega), hfr]; congr 1)
  have F2 := Aside0.mk (show class_Size.f a b d = some (tt : Int) by rw [size_w]; unfold sizeN; rw [if_pos s1, hto, hfr]; congr 1)
  have F3 := Aside0.mk hP1
  have HC := Aside0.mk hC
  have HD := Aside0.mk hc
  have hcut := cut_run A l.length c fr tt (by omega) (by omega) hc
  clear hC hc hP1 s1 s2 s3 s4 s5 s6 sb sc hP h1 h2 ha hg hfr hto hb hl
  go_enter Try.func37, Try.ntmps37
  go_wp2_with fail
  refine (object_Parse.calls 1200 A c l _ _ _ _ _ w HC.out HD.out F3.out).mono ?_
  rintro e w1 ⟨rfl, hb1⟩
  have K1 := Aside0.mk hb1
  clear hb1
  go_wp2_with fail
  go_region_held3 (fun w' => w'.cell? ⟨w1.heap.size, 0, none⟩ = some (.int .i64 a) ∧ w'.cell? ⟨w1.heap.size, 1, none⟩ = some (.int .i64 b) ∧ w'.cell? ⟨w1.heap.size, 2, none⟩ = some (.int .i64 d)) (go_keep)
    (first
      | (go_at_call 48; refine (class_DataAt.calls a b d _ _ F1.out).mono ?_; rintro e w2 ⟨rfl, hb2⟩; have q0 : w2.cell? ⟨w1.heap.size, 0, none⟩ = some (.int .i64 a) := (hb2.cell (by simp)).trans (by simp); have q1 : w2.cell? ⟨w1.heap.size, 1, none⟩ = some (.int .i64 b) := (hb2.cell (by simp)).trans (by simp); have q2 : w2.cell? ⟨w1.heap.size, 2, none⟩ = some (.int .i64 d) := (hb2.cell (by simp)).trans (by simp); have z2 : w1.heap.size < w2.heap.size := Nat.lt_of_lt_of_le (by simp) hb2.size; have K2 := Aside0.mk hb2; clear hb2)
      | (go_at_call 46; refine (class_Size.calls a b d _ _ F2.out).mono ?_; rintro e w3 ⟨rfl, hb3⟩; have r0 := (hb3.cell (p := ⟨w1.heap.size, 0, none⟩) z2).trans q0; have r1 := (hb3.cell (p := ⟨w1.heap.size, 1, none⟩) z2).trans q1; have r2 := (hb3.cell (p := ⟨w1.heap.size, 2, none⟩) z2).trans q2; have K3 := Aside0.mk hb3; clear hb3 q0 q1 q2))
  all_goals
    go_wp2
    go_ret2
    refine ⟨rfl, ?_⟩
    have h1 : Below w.heap.size w w2 := (below_drew (K1.out.alloc K1.out.size _)).trans (K2.out.mono (Nat.le_trans K1.out.size (by simp)))
    exact h1.trans (K3.out.mono h1.size)
end
set_option linter.unusedVariables false
set_option linter.unusedSimpArgs false

/-- The bytes are an object's. -/
def IsObj (l : List Int) : Prop := Parsed l (pa l) (pb l) (pc l) (pg l)
instance (l : List Int) : Decidable (IsObj l) := decidable_of_iff (16 ≤ l.length ∧ (HD (pa l) (pb l) (pc l) (pg l)).2 = 0 ∧ hdL (pa l) (pb l) (pc l) (pg l) = l.take 16 ∧ l.length = SL (pa l) (pb l) (pc l)) ⟨fun h => ⟨h.1, h.2.1, h.2.2.1, h.2.2.2⟩, fun h => ⟨h.long, h.head, h.same, h.slot⟩⟩
/-- Where an object's data begin, and how many there are. -/
def dfr (l : List Int) : Nat := 16 + 8 * (pb l).toNat
def dn (l : List Int) : Nat := (pc l).toNat
def dX (l : List Int) : List Int := (l.take (dfr l + dn l)).drop (dfr l)
theorem IsObj.nums {l : List Int} (h : IsObj l) : pb l = ((pb l).toNat : Int) ∧ pc l = ((dn l : Nat) : Int) ∧ dfr l + dn l ≤ l.length ∧ l.length ≤ 1024 ∧ 16 ≤ l.length ∧ (pb l).toNat ≤ 126 ∧ (dX l).length = dn l := by
  obtain ⟨s1, s2, s3, s4, s5, s6⟩ := h.shape
  have sb := (chk_ok s1).2.1
  have sc := (chk_ok s1).2.2.1
  have h16 := h.long
  have e1 : pb l = ((pb l).toNat : Int) := by omega
  have e2 : pc l = ((dn l : Nat) : Int) := by unfold dn; omega
  have e3 : dfr l + dn l ≤ l.length := by unfold dfr dn; omega
  refine ⟨e1, e2, e3, s6, h16, by omega, ?_⟩
  unfold dX
  rw [List.length_drop, List.length_take]
  omega
section
variable {A : Option Addr} {c : Nat} {l : List Int} {w : World} (hC : Kd.C (Kd.int .u8) w A l.length l) (hc : l.length ≤ c) (hb : Bytes l) (hl : l.length ≤ 140737488351232)
include hC hc hb hl
theorem data_x (h : IsObj l) : Calls Try.prog 37 #[.slice A l.length c] w fun e w' => e = .returned (.tuple #[.slice (cutA A (dfr l) (dfr l + dn l)) (dX l).length (dX l).length, .int .i64 0]) ∧ Below w.heap.size w w' := by
  obtain ⟨e1, e2, e3, e4, e5, e6, e7⟩ := h.nums
  have := data_yes hC hc hb hl (pb l).toNat (dn l) (dfr l) (dfr l + dn l) e1 e2 rfl rfl h
  rw [show dfr l + dn l - dfr l = (dX l).length by omega] at this
  exact this
set_option maxRecDepth 100000 in
set_option maxHeartbeats 2000000 in
theorem data_no (h : ¬ IsObj l) : Calls Try.prog 37 #[.slice A l.length c] w fun e w' => e = .returned (.tuple #[.slice none 0 0, .int .i64 130]) ∧ Below w.heap.size w w' := by
  have F3 := Aside0.mk (parse_no 1200 l hb hl (by decide) h).1
  have HC := Aside0.mk hC
  have HD := Aside0.mk hc
  clear hC hc hb hl h
  go_enter Try.func37, Try.ntmps37
  go_wp2_with fail
  refine (object_Parse.calls 1200 A c l _ _ _ _ _ w HC.out HD.out F3.out).mono ?_
  rintro e w1 ⟨rfl, hb1⟩
  have K1 := Aside0.mk hb1
  clear hb1
  go_wp2_with fail
  go_ret2
  exact ⟨rfl, K1.out.alloc K1.out.size _⟩
end
/-- Data's answer. -/
def DA (l : List Int) : List Int × Int := if IsObj l then (dX l, 0) else ([], 130)
section
variable {A : Option Addr} {c : Nat} {l : List Int} {w : World} (hC : Kd.C (Kd.int .u8) w A l.length l) (hc : l.length ≤ c) (hb : Bytes l) (hl : l.length ≤ 140737488351232)
include hC hc hb hl
set_option maxRecDepth 100000 in
set_option maxHeartbeats 2000000 in
theorem Data_c {x : List Int} {n : Int} (hx : DA l = (x, n)) : Calls Try.prog 16 #[.slice A l.length c] w (Gives2 w x n) := by
  unfold DA at hx
  by_cases h : IsObj l
  · rw [if_pos h] at hx
    injection hx with hx hn
    subst hx hn
    obtain ⟨e1, e2, e3, e4, e5, e6, e7⟩ := h.nums
    have P1 := Aside0.mk (data_x hC hc hb hl h)
    have HX := Aside0.mk (cut_C hC (fr := dfr l) (tt := dfr l + dn l) (by omega) e3)
    have CL := Aside0.mk (show bytes_Clone.f (dX l) = some (dX l) by unfold bytes_Clone.f; rw [if_pos (by omega)])
    have X7 := Aside0.mk e7
    obtain ⟨x, hx⟩ : ∃ x, x = dX l := ⟨_, rfl⟩
    have HXX : Kd.C (Kd.int .u8) w (cutA A (dfr l) (dfr l + dn l)) (dX l).length (dX l) := by
      have h3 := HX.out
      rw [Nat.add_sub_cancel_left] at h3
      rw [e7]
      exact h3
    obtain ⟨B, hB⟩ : ∃ B, B = cutA A (dfr l) (dfr l + dn l) := ⟨_, rfl⟩
    have P2 := P1.out
    have CLL := CL.out
    rw [← hx, ← hB] at P2 HXX
    rw [← hx] at CLL
    rw [← hx]
    have P := Aside0.mk P2
    have XC := Aside0.mk HXX
    have CF := Aside0.mk CLL
    clear hC hc hb hl h e1 e2 e3 e4 e5 e6 e7 P1 HX CL X7 hx hB P2 HXX CLL
    go_enter Try.func16, Try.ntmps16
    go_wp2_with fail
    refine P.out.mono ?_
    rintro e w1 ⟨rfl, hb1⟩
    have K1 := Aside0.mk hb1
    have X1 := Aside0.mk (Kd.C_below XC.out hb1)
    clear hb1
    go_wp2_with fail
    refine (bytes_Clone.calls B _ x _ _ X1.out (Nat.le_refl _) CF.out).mono ?_
    rintro e w2 ⟨v, rfl, ho, hb2⟩
    have H2 := Aside0.mk ho
    have K2 := Aside0.mk (K1.out.trans (hb2.mono K1.out.size))
    clear ho hb2
    go_wp2_with fail
    go_ret2
    exact gives2_of H2.out K2.out
  · rw [if_neg h] at hx
    injection hx with hx hn
    subst hx hn
    have P := Aside0.mk (data_no hC hc hb hl h)
    clear hC hc hb hl h
    go_enter Try.func16, Try.ntmps16
    go_wp2_with fail
    refine P.out.mono ?_
    rintro e w1 ⟨rfl, hb1⟩
    have K1 := Aside0.mk hb1
    clear hb1
    go_wp2_with fail
    go_ret2
    exact ⟨none, 0, rfl, Nat.le_refl _, Kd.C_nil _ _, K1.out⟩
end
set_option linter.unusedVariables false
set_option linter.unusedSimpArgs false

/-- SetData's answer. -/
def SD (l : List Int) (i : Int) (x : List Int) : List Int × Int := if IsObj l then (if i < 0 ∨ i > (dn l : Int) ∨ (x.length : Int) > (dn l : Int) - i then ([], 131) else (over l (dfr l + i.toNat) x, 0)) else ([], 130)
theorem info5s : (Try.prog.info? 5).map (·.size) = some 1 := by kernel_rfl
theorem u8enc : (Kd.int .u8) = Kd.scalar (Value.int .u8) (fun _ => rfl) := rfl
section
variable {A : Option Addr} {c : Nat} {l : List Int} {w : World} (hC : Kd.C (Kd.int .u8) w A l.length l) (hc : l.length ≤ c) (hb : Bytes l) (hl : l.length ≤ 140737488351232)
variable {A2 : Option Addr} {c2 : Nat} {x : List Int} (hC2 : Kd.C (Kd.int .u8) w A2 x.length x) (hc2 : x.length ≤ c2) (hx : x.length ≤ 140737488351232)
include hC hc hb hl hC2 hc2 hx
set_option maxRecDepth 100000 in
set_option maxHeartbeats 4000000 in
theorem SetData_c {i : Int} {r : List Int} {n : Int} (hr : SD l i x = (r, n)) : Calls Try.prog 18 #[.slice A l.length c, .int .i64 i, .slice A2 x.length c2] w (Gives2 w r n) := by
  have CL := Aside0.mk (show bytes_Clone.f l = some l by unfold bytes_Clone.f; rw [if_pos (by omega)])
  have HC := Aside0.mk hC
  have HD := Aside0.mk hc
  have HC2 := Aside0.mk hC2
  have HD2 := Aside0.mk hc2
  have HB := Aside0.mk hb
  have HL := Aside0.mk hl
  have HX := Aside0.mk hx
  have HR := Aside0.mk hr
  clear hC hc hb hl hC2 hc2 hx hr
  go_enter Try.func18, Try.ntmps18
  go_wp2_with fail
  refine (bytes_Clone.calls A c l _ w HC.out HD.out CL.out).mono ?_
  rintro e w1 ⟨v, rfl, ho, hb1⟩
  by_cases h : IsObj l
  case neg =>
    have hr := HR.out
    unfold SD at hr
    rw [if_neg h] at hr
    injection hr with hr hn
    subst hr hn
    obtain ⟨V, vc, rfl, hvc, hvC⟩ := Kd.R_reads ho
    have P := Aside0.mk (data_no hvC hvc HB.out HL.out h)
    have K1 := Aside0.mk hb1
    clear ho hb1 h hvc hvC HR
    go_wp2_with fail
    refine P.out.mono ?_
    rintro e w2 ⟨rfl, hb2⟩
    have K2 := Aside0.mk (K1.out.trans (hb2.mono K1.out.size))
    clear hb2
    go_wp2_with fail
    go_ret2
    exact ⟨none, 0, rfl, Nat.le_refl _, Kd.C_nil _ _, K2.out⟩
  obtain ⟨e1, e2, e3, e4, e5, e6, e7⟩ := h.nums
  obtain ⟨g, cap, cur, rfl, hg, _, hh, hlc, hcm, hcl, hct⟩ := row_blk (h1 := fun _ => rfl) (enc := Value.int .u8) ho (by omega)
  have hvC : Kd.C (Kd.int .u8) w1 (some ⟨g, 0, none⟩) l.length l := blk_C (o := 0) hh (by simpa using hct) (by omega)
  have P2 := data_x hvC hlc HB.out HL.out h
  obtain ⟨m, hm⟩ : ∃ m, m = (dX l).length := ⟨_, rfl⟩
  obtain ⟨B, hB⟩ : ∃ B, B = cutA (some ⟨g, 0, none⟩) (dfr l) (dfr l + dn l) := ⟨_, rfl⟩
  rw [← hm, ← hB] at P2
  have P := Aside0.mk P2
  have K1 := Aside0.mk hb1
  have X1 := Aside0.mk (Kd.C_below HC2.out hb1)
  have HG := Aside0.mk hg
  have HH := Aside0.mk hh
  have hm2 : m ≤ 1024 := by omega
  have HM := Aside0.mk hm
  have HBB := Aside0.mk hB
  have HOB := Aside0.mk h
  have HT := Aside0.mk hct
  have HLC := Aside0.mk hlc
  have HCL := Aside0.mk hcl
  have hxx := HX.out
  clear ho hb1 h hvC P2 hm hB hg hh hct hlc hcl hcm e1 e2 e3 e4 e5 e6 e7
  go_wp2_with fail
  refine P.out.mono ?_
  rintro e w2 ⟨rfl, hb2⟩
  have K2 := Aside0.mk (K1.out.trans (hb2.mono K1.out.size))
  have X2 := Aside0.mk (Kd.C_below X1.out hb2)
  have H2 := Aside0.mk ((hb2.block g (blk_lt HH.out)).trans HH.out)
  clear hb2 P
  by_cases hbad : i < 0 ∨ i > (m : Int) ∨ (x.length : Int) > (m : Int) - i
  case pos =>
    have hr := HR.out
    unfold SD at hr
    rw [if_pos HOB.out, ← HOB.out.nums.2.2.2.2.2.2, ← HM.out, if_pos hbad] at hr
    injection hr with hr hn
    subst hr hn
    have fin : Gives2 w [] 131 (.returned (.tuple #[.slice none 0 0, .int .i64 131])) w2 := ⟨none, 0, rfl, Nat.le_refl _, Kd.C_nil _ _, K2.out⟩
    have FIN := Aside0.mk fin
    clear fin
    by_cases d0 : i < 0
    · have q0 : decide (i < 0) = true := decide_eq_true d0
      clear hbad d0 HR
      go_wp2_with fail
      go_ret2
      exact FIN.out
    have q0 : decide (i < 0) = false := decide_eq_false d0
    obtain ⟨p, rfl⟩ := Int.eq_ofNat_of_zero_le (show 0 ≤ i by omega)
    by_cases d1 : m < p
    · have q1 : decide ((p : Int) > (m : Int)) = true := decide_eq_true (by omega)
      have q1n : decide (p > m) = true := decide_eq_true d1
      have q1m : decide (m < p) = true := decide_eq_true d1
      clear hbad d0 HR
      go_wp2_with fail
      go_ret2
      exact FIN.out
    have q1 : decide ((p : Int) > (m : Int)) = false := decide_eq_false (by omega)
    have q1n : decide (p > m) = false := decide_eq_false d1
    have q1m : decide (m < p) = false := decide_eq_false d1
    have q2 : decide ((x.length : Int) > (m : Int) - (p : Int)) = true := decide_eq_true (by omega)
    have q3 : p ≤ m := by omega
    clear hbad d0 d1 HR
    go_wp2_with fail
    go_ret2
    exact FIN.out
  obtain ⟨p, rfl⟩ := Int.eq_ofNat_of_zero_le (show 0 ≤ i by omega)
  have hr := HR.out
  unfold SD at hr
  rw [if_pos HOB.out, ← HOB.out.nums.2.2.2.2.2.2, ← HM.out, if_neg hbad, Int.toNat_natCast] at hr
  injection hr with hr hn
  subst hr hn
  have hp : p ≤ m := by omega
  have hxm : x.length ≤ m - p := by omega
  have q0 : decide ((p : Int) < 0) = false := decide_eq_false (by omega)
  have q1 : decide (p > m) = false := decide_eq_false (by omega)
  have q1m : decide (m < p) = false := decide_eq_false (by omega)
  have q1' : decide ((p : Int) > (m : Int)) = false := decide_eq_false (by omega)
  have q2 : decide ((x.length : Int) > (m : Int) - (p : Int)) = false := decide_eq_false (by omega)
  obtain ⟨i5, hi5, hz0, hz1, hz2⟩ := info_parts info5
  obtain ⟨B2, hB2⟩ : ∃ B2, B2 = if m = p then B else B.map (·.add (p * 1)) := ⟨_, rfl⟩
  obtain ⟨rr, hrr⟩ : ∃ rr, rr = m - p := ⟨_, rfl⟩
  have hsl : ∀ W : World, (Instr.slice 24 (.slice B m m) (some (.int .i64 (p : Int))) none none).run Try.prog W = .ok (.slice B2 rr rr) W := by
    intro W
    have := cut_from (P := Try.prog) 24 5 .i64 Try.underlying24 hi5 1 hz1 B m m (p : Int) (by omega) (by omega) W
    rw [this, hB2, hrr, Int.toNat_natCast]
  obtain ⟨off, hoff⟩ : ∃ off, off = dfr l + p := ⟨_, rfl⟩
  obtain ⟨cs, hcs⟩ : ∃ cs, cs = encs (Value.int .u8) x := ⟨_, rfl⟩
  have hcl : cs.length = x.length := by rw [hcs, encs_length]
  have hfit0 : off + x.length ≤ l.length := by have := HOB.out.nums; have := HM.out; omega
  have A1 := Aside0.mk (show cs.length = Nat.min x.length rr by rw [hcl, hrr]; exact (Nat.min_eq_left hxm).symm)
  have A3 := Aside0.mk (show 0 < cs.length → B2 = some ⟨g, off, none⟩ ∧ ∃ ad, A2 = some ad ∧ ∀ j v, cs[j]? = some v → w2.cell? (ad.add j) = some v by
    intro h0
    have hmn := HOB.out.nums.2.2.2.2.2.2
    have hmm := HM.out
    obtain ⟨ad, ha, hcell⟩ := C_cells (enc := Value.int .u8) (h1 := fun _ => rfl) X2.out x.length (Nat.le_refl _) (by omega)
    rw [List.take_length, ← hcs] at hcell
    refine ⟨?_, ad, ha, hcell⟩
    rw [hB2, if_neg (by omega), HBB.out]
    unfold cutA
    rw [if_neg (by omega), Option.map_some, Option.map_some, add_at, add_at, hoff, Nat.mul_one, Nat.zero_add])
  have A4 := Aside0.mk (show off + cs.length ≤ cur.length by rw [hcl, HCL.out]; have := HLC.out; omega)
  have A5 := Aside0.mk (show ∀ v ∈ cs, v.oneCell' = true by rw [hcs]; exact encs_one x (fun _ => rfl))
  have A6 := Aside0.mk (show (splice cur off cs).take l.length = encs (Value.int .u8) (over l off x) by rw [hcs]; exact splice_take HT.out hfit0 (by have := HLC.out; have := HCL.out; omega))
  have A7 := Aside0.mk (show (over l off x).length = l.length from over_length hfit0)
  have HOFF := Aside0.mk hoff
  have hok : p ≤ m := hp
  clear hbad hxm hp hcs hcl hfit0 hoff hB2 hrr
  go_wp2_with (with_reducible refine wpList_copy_splice rfl (.tmp 42) (.tmp 43) 24 24 rfl 5 Try.underlying24 info5s B2 A2 rr rr x.length c2 rfl rfl g off cur 5 H2.out cs A1.out A3.out A4.out A5.out w.heap.size w K2.out HG.out ?_; intro w3 hg3 hb3)
  go_ret2
  obtain rfl := HOFF.out
  refine ⟨some ⟨g, 0, none⟩, cap, by rw [A7.out]; rfl, by rw [A7.out]; exact HLC.out, ?_, hb3⟩
  refine blk_C (o := 0) hg3.out ?_ (by rw [A7.out]; have := HL.out; omega)
  rw [List.drop_zero, A7.out]
  exact A6.out
end
set_option linter.unusedVariables false
set_option linter.unusedSimpArgs false

theorem dataAt_r {a b c : Int} (h : chk a b c = 0) : atticref11_DataAt.f a b c = some (16 + 8 * b) := by
  have h2 := (chk_ok h).2.1
  unfold atticref11_DataAt.f
  rw [chk_r, h]
  simp only [Option.bind_some, if_true]
  rw [w64id (x := 8 * b) (by omega) (by omega), w64id (by omega) (by omega)]
theorem rdata_f (k : Nat) (l : List Int) (hb : Bytes l) (hl : l.length ≤ 140737488351232) (hk : 1200 ≤ k) : atticref13_Data.f k l = some (DA l) := by
  unfold atticref13_Data.f DA
  by_cases h : IsObj l
  · obtain ⟨e1, e2, e3, e4, e5, e6, e7⟩ := h.nums
    have hs := h.shape.1
    rw [(parse_yes k l hb hl hk h).2, if_pos h]
    simp only [Option.bind_some, if_true]
    rw [dataAt_r hs]
    simp only [Option.bind_some]
    have d1 : 16 + 8 * pb l = ((dfr l : Nat) : Int) := by unfold dfr; omega
    have d2 : wrap64 (16 + 8 * pb l + pc l) = ((dfr l + dn l : Nat) : Int) := by rw [d1, e2, w64id (by omega) (by omega)]; omega
    rw [d2, d1, if_pos (by omega), if_pos (by omega), if_pos (by omega), Int.toNat_natCast, Int.toNat_natCast]
    change (if (0 : Nat) + (dX l).length < _ then _ else _) = _
    rw [if_pos (by omega)]
    rfl
  · rw [(parse_no k l hb hl hk h).2, if_neg h]
    rfl
theorem with_f (l : List Int) (p : Nat) (x : List Int) (hl : l.length ≤ 140737488351232) (hp : p + x.length ≤ l.length) : atticref13_with.f l (p : Int) x = some (over l p x) := by
  unfold atticref13_with.f over
  rw [if_pos (by show (0 : Nat) + _ < _; omega)]
  simp only [Option.bind_some]
  rw [if_pos (by omega), if_pos (by omega), Int.toNat_natCast, List.take_of_length_le (show x.length ≤ l.length - p by omega), List.append_assoc]
theorem rset_f (k : Nat) (l : List Int) (i : Int) (x : List Int) (hb : Bytes l) (hl : l.length ≤ 140737488351232) (hx : x.length ≤ 140737488351232) (hk : 1201 ≤ k) : atticref13_SetData.f k l i x = some (SD l i x) := by
  unfold atticref13_SetData.f SD
  by_cases h : IsObj l
  · obtain ⟨e1, e2, e3, e4, e5, e6, e7⟩ := h.nums
    have hs := h.shape.1
    have hc := (chk_ok hs).2.2.1
    rw [(parse_yes k l hb hl (by omega) h).2, if_pos h]
    simp only [Option.bind_some, if_true]
    obtain ⟨k, rfl⟩ : ∃ m, k = m + 1 := ⟨k - 1, by omega⟩
    by_cases h1 : i < 0
    · rw [if_pos h1, if_pos (.inl h1), atticref13_SetData.j0, if_pos rfl]
    · rw [if_neg h1]
      by_cases h2 : i > pc l
      · rw [if_pos h2, if_pos (.inr (.inl (by omega))), atticref13_SetData.j0, if_pos rfl]
      · rw [if_neg h2]
        rw [w64id (x := pc l - i) (by omega) (by omega)]
        by_cases h3 : (x.length : Int) > pc l - i
        · rw [decide_eq_true h3, if_pos (.inr (.inr (by omega))), atticref13_SetData.j0, if_pos rfl]
        · rw [decide_eq_false h3, if_neg (by omega), atticref13_SetData.j0, if_neg (by decide), dataAt_r hs]
          simp only [Option.bind_some]
          have d1 : wrap64 (16 + 8 * pb l + i) = ((dfr l + i.toNat : Nat) : Int) := by rw [w64id (by omega) (by omega)]; unfold dfr; omega
          rw [d1, with_f l _ x hl (by omega)]
          rfl
  · rw [(parse_no k l hb hl (by omega) h).2, if_neg h]
    rfl
section
variable {A : Option Addr} {c : Nat} {l : List Int} {w : World} (hC : Kd.C (Kd.int .u8) w A l.length l) (hc : l.length ≤ c)
variable {A2 : Option Addr} {c2 : Nat} {x : List Int} (hC2 : Kd.C (Kd.int .u8) w A2 x.length x) (hc2 : x.length ≤ c2)
include hC hc
theorem rData_c (hb : Bytes l) (hl : l.length ≤ 140737488351232) {r : List Int} {n : Int} (h : DA l = (r, n)) : Calls Try.prog 17 #[.slice A l.length c] w (Gives2 w r n) := by
  refine (atticref13_Data.calls 1200 A c l r n w hC hc (by rw [rdata_f _ l hb hl (Nat.le_refl _), h])).mono ?_
  rintro e w' ⟨v, rfl, ho, hb⟩
  exact gives2_of ho hb
include hC2 hc2
theorem rSetData_c (hb : Bytes l) (hl : l.length ≤ 140737488351232) (hx : x.length ≤ 140737488351232) {i : Int} {r : List Int} {n : Int} (h : SD l i x = (r, n)) : Calls Try.prog 19 #[.slice A l.length c, .int .i64 i, .slice A2 x.length c2] w (Gives2 w r n) := by
  refine (atticref13_SetData.calls 1201 A c l i A2 c2 x r n w hC hc hC2 hc2 (by rw [rset_f _ l i x hb hl hx (Nat.le_refl _), h])).mono ?_
  rintro e w' ⟨v, rfl, ho, hb⟩
  exact gives2_of ho hb
theorem equal_c {r : Bool} (h : bytes_Equal.f l x = some r) : Calls Try.prog 15 #[.slice A l.length c, .slice A2 x.length c2] w fun e w' => e = .returned (.bool r) ∧ Below w.heap.size w w' := by
  refine (bytes_Equal.calls A c l A2 c2 x r w hC hc hC2 hc2 h).mono ?_
  rintro e w' ⟨rfl, hd⟩
  exact ⟨rfl, drawn_below hd⟩
end
theorem live_c (w : World) : Calls Try.prog 14 #[] w fun e w' => e = .returned (.bool true) ∧ Below w.heap.size w w' := by
  refine atticlaw13_live.calls 1300 true w ?_
  unfold atticlaw13_live.f
  rw [head_w 1300 1 2 5 9 (by decide)]
  decide +kernel
set_option linter.unusedVariables false
set_option linter.unusedSimpArgs false

/-- How many pointers an object has. -/
def pn (l : List Int) : Nat := (pb l).toNat
theorem IsObj.pn {l : List Int} (h : IsObj l) : pb l = ((Pure.pn l : Nat) : Int) ∧ 16 + 8 * Pure.pn l ≤ l.length ∧ l.length ≤ 1024 ∧ Pure.pn l ≤ 126 := by
  obtain ⟨e1, e2, e3, e4, e5, e6, e7⟩ := h.nums
  refine ⟨e1, ?_, e4, e6⟩
  unfold dfr at e3
  unfold Pure.pn
  omega
theorem ptrAt_in {a b c i : Int} (h : chk a b c = 0) (h0 : 0 ≤ i) (h1 : i < b) : class_PtrAt.f a b c i = some (16 + 8 * i) ∧ atticref11_PtrAt.f a b c i = some (16 + 8 * i) := by
  have h2 := (chk_ok h).2.1
  unfold class_PtrAt.f atticref11_PtrAt.f
  rw [chk_r, chk_w, h]
  simp only [Option.bind_some, if_true]
  rw [if_neg (by omega), if_neg (by omega), w64id (x := 8 * i) (by omega) (by omega), w64id (by omega) (by omega)]
  exact ⟨rfl, rfl⟩
theorem ptrAt_out {a b c i : Int} (h : chk a b c = 0) (h1 : i < 0 ∨ i ≥ b) : class_PtrAt.f a b c i = some (-1) := by
  unfold class_PtrAt.f
  rw [chk_w, h]
  simp only [Option.bind_some, if_true]
  by_cases h0 : i < 0
  · rw [if_pos h0]
  · rw [if_neg h0, if_pos (by omega)]
section
variable {A : Option Addr} {c : Nat} {l : List Int} {w : World} (hC : Kd.C (Kd.int .u8) w A l.length l) (hc : l.length ≤ c) (hb : Bytes l) (hl : l.length ≤ 140737488351232)
include hC hc hb hl
set_option maxRecDepth 100000 in
set_option maxHeartbeats 2000000 in
theorem pointer_yes (h : IsObj l) (i fr : Nat) (hi : i < pn l) (hfr : fr = 16 + 8 * i) : Calls Try.prog 40 #[.slice A l.length c, .int .i64 i] w fun e w' => e = .returned (.tuple #[.slice (cutA A fr (fr + 8)) 8 8, .int .i64 0]) ∧ Below w.heap.size w w' := by
  obtain ⟨e1, e2, e3, e4⟩ := h.pn
  have F1 := Aside0.mk (show class_PtrAt.f (pa l) (pb l) (pc l) i = some (fr : Int) by rw [(ptrAt_in h.shape.1 (by omega) (by omega)).1, hfr]; congr 1)
  have F3 := Aside0.mk (parse_yes 1200 l hb hl (by decide) h).1
  have hcut := cut_run A l.length c fr (fr + 8) (by omega) (by omega) hc
  rw [Nat.add_sub_cancel_left] at hcut
  have hcut' : ∀ W : World, (Instr.slice 24 (.slice A l.length c) (some (.int .i64 (fr : Int))) (some (.int .i64 ((fr : Int) + 8))) (some (.int .i64 ((fr : Int) + 8)))).run Try.prog W = .ok (.slice (cutA A fr (fr + 8)) 8 8) W := hcut
  obtain ⟨B, hB⟩ : ∃ B, B = cutA A fr (fr + 8) := ⟨_, rfl⟩
  rw [← hB] at hcut' ⊢
  have HC := Aside0.mk hC
  have HD := Aside0.mk hc
  obtain ⟨a, ha⟩ : ∃ a, a = pa l := ⟨_, rfl⟩
  obtain ⟨b, hb'⟩ : ∃ b, b = pb l := ⟨_, rfl⟩
  obtain ⟨d, hd⟩ : ∃ d, d = pc l := ⟨_, rfl⟩
  obtain ⟨g, hg⟩ : ∃ g, g = pg l := ⟨_, rfl⟩
  rw [← ha, ← hb', ← hd, ← hg] at F3
  rw [← ha, ← hb', ← hd] at F1
  have hf2 : fr ≤ 2000 := by omega
  have hneg : decide ((fr : Int) < 0) = false := decide_eq_false (by omega)
  clear hC hc hb hl h hi hfr e1 e2 e3 e4 hcut hB ha hb' hd hg
  go_enter Try.func40, Try.ntmps40
  go_wp2_with fail
  refine (object_Parse.calls 1200 A c l _ _ _ _ _ w HC.out HD.out F3.out).mono ?_
  rintro e w1 ⟨rfl, hb1⟩
  have K1 := Aside0.mk hb1
  clear hb1
  go_wp2_with fail
  refine (class_PtrAt.calls a b d _ _ _ F1.out).mono ?_
  rintro e w2 ⟨rfl, hb2⟩
  have K2 := Aside0.mk ((K1.out.alloc K1.out.size _).trans (hb2.mono (Nat.le_trans K1.out.size (by simp))))
  clear hb2
  go_wp2_with fail
  go_ret2
  exact ⟨rfl, K2.out⟩
set_option maxRecDepth 100000 in
set_option maxHeartbeats 2000000 in
theorem pointer_out (h : IsObj l) (i : Int) (hi : i < 0 ∨ i ≥ (pn l : Int)) : Calls Try.prog 40 #[.slice A l.length c, .int .i64 i] w fun e w' => e = .returned (.tuple #[.slice none 0 0, .int .i64 131]) ∧ Below w.heap.size w w' := by
  obtain ⟨e1, e2, e3, e4⟩ := h.pn
  have F1 := Aside0.mk (ptrAt_out h.shape.1 (i := i) (by omega))
  have F3 := Aside0.mk (parse_yes 1200 l hb hl (by decide) h).1
  have HC := Aside0.mk hC
  have HD := Aside0.mk hc
  obtain ⟨a, ha⟩ : ∃ a, a = pa l := ⟨_, rfl⟩
  obtain ⟨b, hb'⟩ : ∃ b, b = pb l := ⟨_, rfl⟩
  obtain ⟨d, hd⟩ : ∃ d, d = pc l := ⟨_, rfl⟩
  obtain ⟨g, hg⟩ : ∃ g, g = pg l := ⟨_, rfl⟩
  rw [← ha, ← hb', ← hd, ← hg] at F3
  rw [← ha, ← hb', ← hd] at F1
  clear hC hc hb hl h hi e1 e2 e3 e4 ha hb' hd hg
  go_enter Try.func40, Try.ntmps40
  go_wp2_with fail
  refine (object_Parse.calls 1200 A c l _ _ _ _ _ w HC.out HD.out F3.out).mono ?_
  rintro e w1 ⟨rfl, hb1⟩
  have K1 := Aside0.mk hb1
  clear hb1
  go_wp2_with fail
  refine (class_PtrAt.calls a b d _ _ _ F1.out).mono ?_
  rintro e w2 ⟨rfl, hb2⟩
  have K2 := Aside0.mk ((K1.out.alloc K1.out.size _).trans (hb2.mono (Nat.le_trans K1.out.size (by simp))))
  clear hb2
  go_wp2_with fail
  go_ret2
  exact ⟨rfl, K2.out⟩
set_option maxRecDepth 100000 in
set_option maxHeartbeats 2000000 in
theorem pointer_no (h : ¬ IsObj l) (i : Int) : Calls Try.prog 40 #[.slice A l.length c, .int .i64 i] w fun e w' => e = .returned (.tuple #[.slice none 0 0, .int .i64 130]) ∧ Below w.heap.size w w' := by
  have F3 := Aside0.mk (parse_no 1200 l hb hl (by decide) h).1
  have HC := Aside0.mk hC
  have HD := Aside0.mk hc
  clear hC hc hb hl h
  go_enter Try.func40, Try.ntmps40
  go_wp2_with fail
  refine (object_Parse.calls 1200 A c l _ _ _ _ _ w HC.out HD.out F3.out).mono ?_
  rintro e w1 ⟨rfl, hb1⟩
  have K1 := Aside0.mk hb1
  clear hb1
  go_wp2_with fail
  go_ret2
  exact ⟨rfl, K1.out.alloc K1.out.size _⟩
end
/-- Ptr's answer. -/
def PT (l : List Int) (i : Int) : Int × Int := if IsObj l then (if i < 0 ∨ i ≥ (pn l : Int) then (0, 131) else ((getL l (16 + 8 * i.toNat) 8 : Nat), 0)) else (0, 130)
/-- SetPtr's answer. -/
def SP (l : List Int) (i : Int) (v : Int) : List Int × Int := if IsObj l then (if i < 0 ∨ i ≥ (pn l : Int) then ([], 131) else (over l (16 + 8 * i.toNat) (numL 8 v.toNat), 0)) else ([], 130)
section
variable {A : Option Addr} {c : Nat} {l : List Int} {w : World} (hC : Kd.C (Kd.int .u8) w A l.length l) (hc : l.length ≤ c) (hb : Bytes l) (hl : l.length ≤ 140737488351232)
include hC hc hb hl
set_option maxRecDepth 100000 in
set_option maxHeartbeats 2000000 in
theorem Ptr_c {i v n : Int} (hr : PT l i = (v, n)) : Calls Try.prog 20 #[.slice A l.length c, .int .i64 i] w fun e w' => e = .returned (.tuple #[.int .u64 v, .int .i64 n]) ∧ Below w.heap.size w w' := by
  unfold PT at hr
  by_cases h : IsObj l
  case neg =>
    rw [if_neg h] at hr
    injection hr with hr hn
    subst hr hn
    have P := Aside0.mk (pointer_no hC hc hb hl h i)
    clear hC hc hb hl h
    go_enter Try.func20, Try.ntmps20
    go_wp2_with fail
    refine P.out.mono ?_
    rintro e w1 ⟨rfl, hb1⟩
    have K1 := Aside0.mk hb1
    clear hb1
    go_wp2_with fail
    go_ret2
    exact ⟨rfl, K1.out⟩
  rw [if_pos h] at hr
  by_cases hi : i < 0 ∨ i ≥ (pn l : Int)
  · rw [if_pos hi] at hr
    injection hr with hr hn
    subst hr hn
    have P := Aside0.mk (pointer_out hC hc hb hl h i hi)
    clear hC hc hb hl h hi
    go_enter Try.func20, Try.ntmps20
    go_wp2_with fail
    refine P.out.mono ?_
    rintro e w1 ⟨rfl, hb1⟩
    have K1 := Aside0.mk hb1
    clear hb1
    go_wp2_with fail
    go_ret2
    exact ⟨rfl, K1.out⟩
  · rw [if_neg hi] at hr
    obtain ⟨p, rfl⟩ := Int.eq_ofNat_of_zero_le (show 0 ≤ i by omega)
    injection hr with hr hn
    subst hr hn
    rw [Int.toNat_natCast]
    obtain ⟨e1, e2, e3, e4⟩ := h.pn
    have P0 := pointer_yes hC hc hb hl h p (16 + 8 * p) (by omega) rfl
    have HX0 := cut_C hC (fr := 16 + 8 * p) (tt := 16 + 8 * p + 8) (by omega) (by omega)
    obtain ⟨x, hx⟩ : ∃ x, x = (l.take (16 + 8 * p + 8)).drop (16 + 8 * p) := ⟨_, rfl⟩
    have hxl : x.length = 8 := by rw [hx, List.length_drop, List.length_take]; omega
    have hxb : Bytes x := by rw [hx]; exact fun y hy => hb y (List.mem_of_mem_take (List.mem_of_mem_drop hy))
    rw [← hx, Nat.add_sub_cancel_left, ← hxl] at HX0
    have G := Aside0.mk (show word_Get.f 10 x 0 8 = some (((getL l (16 + 8 * p) 8 : Nat) : Int), true) by
      rw [(get_f 10 x 0 8 hxb (by omega) (by decide)).1]
      unfold getA
      rw [if_neg (by rw [hxl]; decide)]
      congr 2
      unfold getL
      rw [show (0 : Int).toNat = 0 from rfl, show (8 : Int).toNat = 8 from rfl, List.drop_zero, List.take_of_length_le (by omega), hx, ← List.take_drop])
    obtain ⟨B, hB⟩ : ∃ B, B = cutA A (16 + 8 * p) (16 + 8 * p + 8) := ⟨_, rfl⟩
    rw [← hB] at P0
    have HX1 : Kd.C (Kd.int .u8) w B x.length x := by rw [hB]; have := HX0; rw [hxl] at this ⊢; exact this
    obtain ⟨z, hz⟩ : ∃ z : Int, z = ((getL l (16 + 8 * p) 8 : Nat) : Int) := ⟨_, rfl⟩
    rw [← hz] at G ⊢
    rw [← hxl] at P0
    have P := Aside0.mk P0
    have X := Aside0.mk HX1
    clear hC hc hb hl h hi P0 HX0 HX1 hx hxl hxb hB hz e1 e2 e3 e4
    go_enter Try.func20, Try.ntmps20
    go_wp2_with fail
    refine P.out.mono ?_
    rintro e w1 ⟨rfl, hb1⟩
    have K1 := Aside0.mk hb1
    have X1 := Aside0.mk (Kd.C_below X.out hb1)
    clear hb1
    go_wp2_with fail
    refine (word_Get.calls 10 B _ x _ _ _ _ _ X1.out (Nat.le_refl _) G.out).mono ?_
    rintro e w2 ⟨rfl, hb2⟩
    have K2 := Aside0.mk (K1.out.trans ((drawn_below hb2).mono K1.out.size))
    clear hb2
    go_wp2_with fail
    go_ret2
    exact ⟨rfl, K2.out⟩
end
set_option linter.unusedVariables false
set_option linter.unusedSimpArgs false

section
variable {A : Option Addr} {c : Nat} {l : List Int} {w : World} (hC : Kd.C (Kd.int .u8) w A l.length l) (hc : l.length ≤ c) (hb : Bytes l) (hl : l.length ≤ 140737488351232)
include hC hc hb hl
set_option maxRecDepth 100000 in
set_option maxHeartbeats 4000000 in
theorem SetPtr_c {i : Int} (u : Nat) {r : List Int} {n : Int} (hr : SP l i (u : Int) = (r, n)) : Calls Try.prog 22 #[.slice A l.length c, .int .i64 i, .int .u64 (u : Int)] w (Gives2 w r n) := by
  have CL := Aside0.mk (show bytes_Clone.f l = some l by unfold bytes_Clone.f; rw [if_pos (by omega)])
  have HC := Aside0.mk hC
  have HD := Aside0.mk hc
  have HB := Aside0.mk hb
  have HL := Aside0.mk hl
  have HR := Aside0.mk hr
  clear hC hc hb hl hr
  go_enter Try.func22, Try.ntmps22
  go_wp2_with fail
  refine (bytes_Clone.calls A c l _ w HC.out HD.out CL.out).mono ?_
  rintro e w1 ⟨v, rfl, ho, hb1⟩
  have hr := HR.out
  unfold SP at hr
  by_cases h : IsObj l
  case neg =>
    rw [if_neg h] at hr
    injection hr with hr hn
    subst hr hn
    obtain ⟨V, vc, rfl, hvc, hvC⟩ := Kd.R_reads ho
    have P := Aside0.mk (pointer_no hvC hvc HB.out HL.out h i)
    have K1 := Aside0.mk hb1
    clear ho hb1 h hvc hvC HR
    go_wp2_with fail
    refine P.out.mono ?_
    rintro e w2 ⟨rfl, hb2⟩
    have K2 := Aside0.mk (K1.out.trans (hb2.mono K1.out.size))
    clear hb2
    go_wp2_with fail
    go_ret2
    exact ⟨none, 0, rfl, Nat.le_refl _, Kd.C_nil _ _, K2.out⟩
  rw [if_pos h] at hr
  by_cases hi : i < 0 ∨ i ≥ (pn l : Int)
  · rw [if_pos hi] at hr
    injection hr with hr hn
    subst hr hn
    obtain ⟨V, vc, rfl, hvc, hvC⟩ := Kd.R_reads ho
    have P := Aside0.mk (pointer_out hvC hvc HB.out HL.out h i hi)
    have K1 := Aside0.mk hb1
    clear ho hb1 h hi hvc hvC HR
    go_wp2_with fail
    refine P.out.mono ?_
    rintro e w2 ⟨rfl, hb2⟩
    have K2 := Aside0.mk (K1.out.trans (hb2.mono K1.out.size))
    clear hb2
    go_wp2_with fail
    go_ret2
    exact ⟨none, 0, rfl, Nat.le_refl _, Kd.C_nil _ _, K2.out⟩
  rw [if_neg hi] at hr
  obtain ⟨p, rfl⟩ := Int.eq_ofNat_of_zero_le (show 0 ≤ i by omega)
  rw [Int.toNat_natCast, Int.toNat_natCast] at hr
  injection hr with hr hn
  subst hr hn
  obtain ⟨e1, e2, e3, e4⟩ := h.pn
  obtain ⟨g, cap, cur, rfl, hg, _, hh, hlc, hcm, hcl, hct⟩ := row_blk (h1 := fun _ => rfl) (enc := Value.int .u8) ho (by omega)
  have hvC : Kd.C (Kd.int .u8) w1 (some ⟨g, 0, none⟩) l.length l := blk_C (o := 0) hh (by simpa using hct) (by omega)
  obtain ⟨off, hoff⟩ : ∃ off, off = 16 + 8 * p := ⟨_, rfl⟩
  have P2 := pointer_yes hvC hlc HB.out HL.out h p off (by omega) hoff
  have hcut : cutA (some ⟨g, 0, none⟩) off (off + 8) = some ⟨g, off, none⟩ := by
    unfold cutA
    rw [if_neg (by omega), Option.map_some, add_at, Nat.zero_add]
  obtain ⟨D, hD⟩ : ∃ D : Option Addr, D = some ⟨g, off, none⟩ := ⟨_, rfl⟩
  rw [hcut, ← hD] at P2
  have HDD := Aside0.mk hD
  rw [← hoff]
  obtain ⟨x, hx⟩ : ∃ x, x = numL 8 u := ⟨_, rfl⟩
  have hxl : x.length = 8 := by rw [hx, numL_length]
  have NF := Aside0.mk (show word_Num.f 10 8 (u : Int) = some x by rw [num_f 10 8 u (by decide), if_neg (by decide), hx]; rfl)
  rw [← hx]
  obtain ⟨cs, hcs⟩ : ∃ cs, cs = encs (Value.int .u8) x := ⟨_, rfl⟩
  have A1 := Aside0.mk (show cs.length = 8 by rw [hcs, encs_length, hxl])
  have A4 := Aside0.mk (show off + cs.length ≤ cur.length by rw [A1.out, hcl]; omega)
  have A5 := Aside0.mk (show ∀ v ∈ cs, v.oneCell' = true by rw [hcs]; exact encs_one x (fun _ => rfl))
  have A6 := Aside0.mk (show (splice cur off cs).take l.length = encs (Value.int .u8) (over l off x) by rw [hcs]; exact splice_take hct (by omega) (by omega))
  have A7 := Aside0.mk (show (over l off x).length = l.length from over_length (by omega))
  have XL := Aside0.mk hxl
  have HXE := Aside0.mk hx
  have HOE := Aside0.mk hoff
  have HCS := Aside0.mk hcs
  have P := Aside0.mk P2
  have K1 := Aside0.mk hb1
  have HG := Aside0.mk hg
  have HH := Aside0.mk hh
  have HLC := Aside0.mk hlc
  clear hD ho hb1 h hi hvC P2 hg hh hct hlc hcl hcm e1 e2 e3 e4 hcut hx hxl hcs hoff HR
  go_wp2_with fail
  refine P.out.mono ?_
  rintro e w2 ⟨rfl, hb2⟩
  have K2 := Aside0.mk (K1.out.trans (hb2.mono K1.out.size))
  have H2 := Aside0.mk ((hb2.block g (blk_lt HH.out)).trans HH.out)
  clear hb2 P
  go_wp2_with fail
  refine (word_Num.calls 10 8 (u : Int) x w2 NF.out).mono ?_
  rintro e w3 ⟨v3, rfl, ho3, hb3⟩
  obtain ⟨V, vc, rfl, hvc, hvC⟩ := Kd.R_reads ho3
  have K3 := Aside0.mk (K2.out.trans (hb3.mono K2.out.size))
  have H3 := Aside0.mk ((hb3.block g (blk_lt H2.out)).trans H2.out)
  have A2 := Aside0.mk (show cs.length = Nat.min x.length 8 by rw [A1.out, XL.out]; rfl)
  have A3 := Aside0.mk (show 0 < cs.length → D = some ⟨g, off, none⟩ ∧ ∃ ad, V = some ad ∧ ∀ j v, cs[j]? = some v → w3.cell? (ad.add j) = some v by
    intro h0
    obtain ⟨ad, ha, hcell⟩ := C_cells (enc := Value.int .u8) (h1 := fun _ => rfl) hvC x.length (Nat.le_refl _) (by rw [XL.out]; decide)
    rw [List.take_length, ← HCS.out] at hcell
    exact ⟨HDD.out, ad, ha, hcell⟩)
  clear ho3 hb3 hvc hvC
  go_wp2_with (with_reducible refine wpList_copy_splice rfl (.tmp 22) (.tmp 24) 24 24 rfl 5 Try.underlying24 info5s D V 8 8 x.length vc rfl rfl g off cur 5 H3.out cs A2.out A3.out A4.out A5.out w.heap.size w K3.out HG.out ?_; intro w4 hg4 hb4)
  go_ret2
  obtain rfl := HXE.out
  obtain rfl := HOE.out
  refine ⟨some ⟨g, 0, none⟩, cap, by rw [A7.out]; rfl, by rw [A7.out]; exact HLC.out, ?_, hb4⟩
  refine blk_C (o := 0) hg4.out ?_ (by rw [A7.out]; have := HL.out; omega)
  rw [List.drop_zero, A7.out]
  exact A6.out
end
end Go.Proofs.Ytckdnkiacnonkaa.Pure
