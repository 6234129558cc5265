/- The contracts of the functions on objects, in the form in which the walks of the statements use them. -/
import Derived.Test.YtckdnkiacnonkaaParses
import Derived.Test.YtckdnkiacnonkaaPAllx11
import Derived.Deep.RegionHeld3
import Derived.Laws.CopyOwn
namespace Go.Proofs.Ytckdnkiacnonkaa.Pure
open Go.RowKit Go.Proofs.Ytckdnkiacnonkaa.PAll Go.Proofs.YtckdnkiacnonkaaW.PrintWords Go.Proofs.YtckdnkiacnonkaaW.PrintLast Go.Proofs.YtckdnkiacnonkaaW.PrintMore
set_option linter.unusedVariables false
set_option linter.unusedSimpArgs false

def Gives (w : World) (r : List Int) (e : Ending) (w' : World) : Prop := ∃ A c, e = .returned (.slice A r.length c) ∧ r.length ≤ c ∧ Kd.C (Kd.int .u8) w' A r.length r ∧ Below w.heap.size w w'
/-- A row and an error. -/
def Gives2 (w : World) (r : List Int) (n : Int) (e : Ending) (w' : World) : Prop := ∃ A c, e = .returned (.tuple #[.slice A r.length c, .int .i64 n]) ∧ r.length ≤ c ∧ Kd.C (Kd.int .u8) w' A r.length r ∧ Below w.heap.size w w'
theorem gives_of {w w' : World} {v : Value} {r : List Int} {e : Nat} {base : Nat} {ok : Nat → Prop} (ho : Kd.R (Kd.int .u8) e w' base ok v r) (hb : Below w.heap.size w w') : Gives w r (.returned v) w' := by
  obtain ⟨A, c, rfl, hc, hC⟩ := Kd.R_reads ho
  exact ⟨A, c, rfl, hc, hC, hb⟩
theorem gives2_of {w w' : World} {v : Value} {r : List Int} {n : Int} {e : Nat} {base : Nat} {ok : Nat → Prop} (ho : Kd.R (Kd.int .u8) e w' base ok v r) (hb : Below w.heap.size w w') : Gives2 w r n (.returned (.tuple #[v, .int .i64 n])) w' := by
  obtain ⟨A, c, rfl, hc, hC⟩ := Kd.R_reads ho
  exact ⟨A, c, rfl, hc, hC, hb⟩
theorem drawn_below {w w' : World} (h : Drawn0 w w') : Below w.heap.size w w' := by
  obtain ⟨n, rfl⟩ := h.out
  exact pw_below_drewN (Below.refl _ _) n
/-- A part of a row, with a capacity. -/
def cutA (A : Option Addr) (fr tt : Nat) : Option Addr := if tt = fr then A else A.map (·.add fr)
theorem cut_run (A : Option Addr) (n c fr tt : Nat) (h1 : fr ≤ tt) (h2 : tt ≤ n) (hc : n ≤ c) (W : World) : (Instr.slice 24 (.slice A n c) (some (.int .i64 (fr : Int))) (some (.int .i64 (tt : Int))) (some (.int .i64 (tt : Int)))).run Try.prog W = .ok (.slice (cutA A fr tt) (tt - fr) (tt - fr)) W := by
  obtain ⟨i, hi, hz0, hz1, hz2⟩ := info_parts info5
  have hu : Try.prog.underlying 24 = some (.slice (Try.prog.elem 24)) := by rw [show Try.prog.elem 24 = 5 by simp [Program.elem, Try.underlying24]]; exact Try.underlying24
  rw [run_slice_lhm W 24 A n c hu .i64 .i64 .i64 (fr : Int) (tt : Int) (tt : Int) (by omega) (by omega) (by omega) (by omega), show Try.prog.elem 24 = 5 by simp [Program.elem, Try.underlying24]]
  simp [sizeOf, typeInfo, hi, hz1, sliced, cutA, Result.andThen]
theorem cut_C {w : World} {A : Option Addr} {l : List Int} (h : Kd.C (Kd.int .u8) w A l.length l) {fr tt : Nat} (h1 : fr ≤ tt) (h2 : tt ≤ l.length) : Kd.C (Kd.int .u8) w (cutA A fr tt) (tt - fr) ((l.take tt).drop fr) := by
  have h3 := Kd.C_take h h2
  have hl : (l.take tt).length = tt := by rw [List.length_take]; omega
  have h4 := Kd.C_drop (c := tt) h3 (m := fr) (by omega) (by omega)
  rw [List.length_drop, hl] at h4
  have : (Kd.int .u8).sz = 1 := rfl
  rw [this, Nat.mul_one] at h4
  exact h4
section
variable {A : Option Addr} {c : Nat} {l : List Int} {w : World} (hC : Kd.C (Kd.int .u8) w A l.length l) (hc : l.length ≤ c) (hb : Bytes l) (hl : l.length ≤ 140737488351232)
include hC hc hb hl
set_option maxRecDepth 100000 in
set_option maxHeartbeats 2000000 in
theorem data_yes (b d fr tt : Nat) (h1 : pb l = b) (h2 : pc l = d) (hfr : fr = 16 + 8 * b) (hto : tt = fr + d) (hP : Parsed l (pa l) (pb l) (pc l) (pg l)) :
    Calls Try.prog 37 #[.slice A l.length c] w fun e w' => e = .returned (.tuple #[.slice (cutA A fr tt) (tt - fr) (tt - fr), .int .i64 0]) ∧ Below w.heap.size w w' := by
  obtain ⟨s1, s2, s3, s4, s5, s6⟩ := hP.shape
  have sb := (chk_ok s1).2.1
  have sc := (chk_ok s1).2.2.1
  rw [h1] at sb
  rw [h2] at sc
  have hP1 := (parse_yes 1200 l hb hl (by decide) hP).1
  rw [h1, h2] at hP1 s1 s5
  obtain ⟨a, ha⟩ : ∃ a, a = pa l := ⟨_, rfl⟩
  obtain ⟨g, hg⟩ : ∃ g, g = pg l := ⟨_, rfl⟩
  rw [← ha, ← hg] at hP1
  rw [← ha] at s1
  have F1 := Aside0.mk (show class_DataAt.f a b d = some (fr : Int) by unfold class_DataAt.f; rw [chk_w, s1]; simp only [Option.bind_some, if_true]; rw [w64id (x := 8 * (b : Int)) (by omega) (by omega), w64id (by omega) (by omega), hfr]; congr 1)
  have F2 := Aside0.mk (show class_Size.f a b d = some (tt : Int) by rw [size_w]; unfold sizeN; rw [if_pos s1, hto, hfr]; congr 1)
  have F3 := Aside0.mk hP1
  have HC := Aside0.mk hC
  have HD := Aside0.mk hc
  have hcut := cut_run A l.length c fr tt (by omega) (by omega) hc
  clear hC hc hP1 s1 s2 s3 s4 s5 s6 sb sc hP h1 h2 ha hg hfr hto hb hl
  go_enter Try.func37, Try.ntmps37
  go_wp2_with fail
  refine (object_Parse.calls 1200 A c l _ _ _ _ _ w HC.out HD.out F3.out).mono ?_
  rintro e w1 ⟨rfl, hb1⟩
  have K1 := Aside0.mk hb1
  clear hb1
  go_wp2_with fail
  go_region_held3 (fun w' => w'.cell? ⟨w1.heap.size, 0, none⟩ = some (.int .i64 a) ∧ w'.cell? ⟨w1.heap.size, 1, none⟩ = some (.int .i64 b) ∧ w'.cell? ⟨w1.heap.size, 2, none⟩ = some (.int .i64 d)) (go_keep)
    (first
      | (go_at_call 48; refine (class_DataAt.calls a b d _ _ F1.out).mono ?_; rintro e w2 ⟨rfl, hb2⟩; have q0 : w2.cell? ⟨w1.heap.size, 0, none⟩ = some (.int .i64 a) := (hb2.cell (by simp)).trans (by simp); have q1 : w2.cell? ⟨w1.heap.size, 1, none⟩ = some (.int .i64 b) := (hb2.cell (by simp)).trans (by simp); have q2 : w2.cell? ⟨w1.heap.size, 2, none⟩ = some (.int .i64 d) := (hb2.cell (by simp)).trans (by simp); have z2 : w1.heap.size < w2.heap.size := Nat.lt_of_lt_of_le (by simp) hb2.size; have K2 := Aside0.mk hb2; clear hb2)
      | (go_at_call 46; refine (class_Size.calls a b d _ _ F2.out).mono ?_; rintro e w3 ⟨rfl, hb3⟩; have r0 := (hb3.cell (p := ⟨w1.heap.size, 0, none⟩) z2).trans q0; have r1 := (hb3.cell (p := ⟨w1.heap.size, 1, none⟩) z2).trans q1; have r2 := (hb3.cell (p := ⟨w1.heap.size, 2, none⟩) z2).trans q2; have K3 := Aside0.mk hb3; clear hb3 q0 q1 q2))
  all_goals
    go_wp2
    go_ret2
    refine ⟨rfl, ?_⟩
    have h1 : Below w.heap.size w w2 := (below_drew (K1.out.alloc K1.out.size _)).trans (K2.out.mono (Nat.le_trans K1.out.size (by simp)))
    exact h1.trans (K3.out.mono h1.size)
end
end Go.Proofs.Ytckdnkiacnonkaa.Pure
