/- A reader in memory: contracts of its parts, walked. -/
import Derived.Test.YtnhihiadmllnkaaRdA
import Derived.Test.YtnhihiadmllnkaaFr
import Derived.Test.YtnhihiadmllnkaaPAllx8
import Derived.Test.YtnhihiadmllnkaaPAllx4
import Derived.Deep.RegionHeld3
import Derived.Deep.QuietTactic
import Derived.BigQuiet
namespace Go.Proofs.Ytnhihiadmllnkaa.Pure
open Go.RowKit Go.Proofs.Ytnhihiadmllnkaa Go.Proofs.Ytnhihiadmllnkaa.PAll Go.Proofs.Ytnhihiadmllnkaa.Mem Go.Proofs.YtnhihiadmllnkaaW.PrintWords Go.Proofs.YtnhihiadmllnkaaW.PrintLast Go.Proofs.YtnhihiadmllnkaaW.PrintMore
set_option linter.unusedVariables false
set_option linter.unusedSimpArgs false

/-- A reader's cells. -/
abbrev rdCs (B : Option Addr) (n c : Nat) (at_ e : Int) (made : Bool) : Array Value := #[.slice B n c, .int .i64 at_, .int .i64 e, .bool made]
theorem rd_cells {w : World} {g : Nat} {B : Option Addr} {n c : Nat} {at_ e : Int} {made : Bool} {t : TypeId} (h : w.heap[g]? = some (.cells (rdCs B n c at_ e made) t (0, 0))) :
    w.cell? ⟨g, 0, none⟩ = some (.slice B n c) ∧ w.cell? ⟨g, 1, none⟩ = some (.int .i64 at_) ∧ w.cell? ⟨g, 2, none⟩ = some (.int .i64 e) ∧ w.cell? ⟨g, 3, none⟩ = some (.bool made) := by
  refine ⟨?_, ?_, ?_, ?_⟩ <;> (unfold World.cell?; simp only [h]; rfl)
/-- Where a part of a row begins. -/
def cutP (A : Option Addr) (c lo : Nat) : Option Addr := if c = lo then A else A.map (·.add (lo * 1))
theorem cutP_zero (A : Option Addr) (c : Nat) : cutP A c 0 = A := by
  unfold cutP
  split
  · rfl
  · cases A with
    | none => rfl
    | some a => rw [Nat.zero_mul]; simp [Addr.add]
theorem elem22 : Try.prog.elem 22 = 5 := by simp [Program.elem, Try.underlying22]
theorem info5 : (Try.prog.info? 5).map (fun i => (i.zero, i.size, i.bytes)) = some (some (.int .u8 0), 1, 1) := by kernel_rfl
theorem cutLH (A : Option Addr) (n c lo hi : Nat) (h1 : lo ≤ hi) (h2 : hi ≤ c) (W : World) : (Instr.slice 22 (.slice A n c) (some (.int .i64 (lo : Int))) (some (.int .i64 (hi : Int))) none).run Try.prog W = .ok (.slice (cutP A c lo) (hi - lo) (c - lo)) W := by
  obtain ⟨i, hi0, hz⟩ := Option.map_eq_some_iff.1 info5
  simp only [Prod.mk.injEq] at hz
  have hu : Try.prog.underlying 22 = some (.slice (Try.prog.elem 22)) := by rw [elem22]; exact Try.underlying22
  rw [run_slice_lh W 22 A n c hu .i64 .i64 (lo : Int) (hi : Int) (by omega) (by omega) (by omega), elem22]
  simp [sizeOf, typeInfo, hi0, hz, sliced, cutP, Result.andThen]
theorem cutL (A : Option Addr) (n c lo : Nat) (h1 : lo ≤ n) (W : World) : (Instr.slice 22 (.slice A n c) (some (.int .i64 (lo : Int))) none none).run Try.prog W = .ok (.slice (cutP A c lo) (n - lo) (c - lo)) W := by
  obtain ⟨i, hi0, hz⟩ := Option.map_eq_some_iff.1 info5
  simp only [Prod.mk.injEq] at hz
  have hu : Try.prog.underlying 22 = some (.slice (Try.prog.elem 22)) := by rw [elem22]; exact Try.underlying22
  rw [run_slice_l W 22 A n c hu .i64 (lo : Int) (by omega) (by omega), elem22]
  simp [sizeOf, typeInfo, hi0, hz, sliced, cutP, Result.andThen]
theorem cutH (A : Option Addr) (n c hi : Nat) (h2 : hi ≤ c) (W : World) : (Instr.slice 22 (.slice A n c) none (some (.int .i64 (hi : Int))) none).run Try.prog W = .ok (.slice A hi c) W := by
  obtain ⟨i, hi0, hz⟩ := Option.map_eq_some_iff.1 info5
  simp only [Prod.mk.injEq] at hz
  have hu : Try.prog.underlying 22 = some (.slice (Try.prog.elem 22)) := by rw [elem22]; exact Try.underlying22
  rw [run_slice_h W 22 A n c hu .i64 (hi : Int) (by omega) (by omega), elem22]
  have := cutP_zero A c
  unfold cutP at this
  simp [sizeOf, typeInfo, hi0, hz, sliced, Result.andThen]
  simpa using this
theorem F_midP {w : World} {U : Nat → Prop} {A : Option Addr} {c lo hi : Nat} {l : List Int} (h : Kd.F (Kd.int .u8) w U A l.length l) (h1 : lo ≤ hi) (h2 : hi ≤ l.length) (hc : l.length ≤ c) : Kd.F (Kd.int .u8) w U (cutP A c lo) ((l.take hi).drop lo).length ((l.take hi).drop lo) := Kd.F_mid h h1 h2 hc
theorem F_cutP {w : World} {U : Nat → Prop} {A : Option Addr} {c lo : Nat} {l : List Int} (h : Kd.F (Kd.int .u8) w U A l.length l) (h1 : lo ≤ l.length) (hc : l.length ≤ c) : Kd.F (Kd.int .u8) w U (cutP A c lo) (l.drop lo).length (l.drop lo) := Kd.F_cut h h1 hc
theorem b_t {p : Prop} [Decidable p] {b : Bool} (h : decide p = b) : decide p = b := h
section
variable {w : World} {g : Nat} {B : Option Addr} {n c : Nat} {at_ e : Int} {made : Bool} (hg : w.heap[g]? = some (.cells (rdCs B n c at_ e made) 66 (0, 0)))
include hg
set_option maxRecDepth 100000 in
theorem none_c : Calls Try.prog 41 #[.pointer (some ⟨g, 0, none⟩)] w fun ex w' => ex = .returned (.bool (!made)) ∧ Below w.heap.size w w' := by
  have K0 := Aside0.mk (Below.refl w.heap.size w)
  obtain ⟨z0, z1, z2, z3⟩ := rd_cells hg
  go_enter Try.func41, Try.ntmps41
  go_wp2_with fail
  go_ret
  exact ⟨rfl, K0.out⟩
set_option maxRecDepth 100000 in
theorem refuse_c (b : Bool) (x : Int) : Calls Try.prog 42 #[.pointer (some ⟨g, 0, none⟩), .bool b, .int .i64 x] w fun ex w' => ex = .returned (.tuple #[]) ∧ w'.heap[g]? = some (.cells (rdCs B n c at_ (if b = true ∧ e = 0 then x else e) made) 66 (0, 0)) ∧ Fr (· = g) w w' := by
  have K0 := Aside0.mk (Fr.refl (· = g) w)
  have G0 := Aside0.mk hg
  have y2 := blk_frozen hg 2
  obtain ⟨z0, z1, z2, z3⟩ := rd_cells hg
  clear hg
  by_cases he : e = 0
  · subst he
    cases b
    · go_enter Try.func42, Try.ntmps42
      go_wp2_with fail
      go_end0
      exact ⟨rfl, by simpa using G0.out, K0.out⟩
    · go_enter Try.func42, Try.ntmps42
      go_wp2_with fail
      go_end0
      refine ⟨rfl, ?_, Fr.set (F := (· = g)) (p := ⟨g, 2, none⟩) K0.out rfl _⟩
      rw [blk_set G0.out 2 _]
      simp
  · have hb1 : (e == 0) = false := by simpa using he
    rw [if_neg (fun h => he h.2)]
    clear he
    cases b
    · go_enter Try.func42, Try.ntmps42
      go_wp2_with fail
      go_end0
      exact ⟨rfl, G0.out, K0.out⟩
    · go_enter Try.func42, Try.ntmps42
      go_wp2_with fail
      go_end0
      exact ⟨rfl, G0.out, K0.out⟩
end
section
variable {w : World} {g : Nat} {B : Option Addr} {c p : Nat} {e : Int} {l : List Int} (hg : w.heap[g]? = some (.cells (rdCs B l.length c p e true) 66 (0, 0)))
include hg
set_option maxRecDepth 100000 in
theorem can_c (hl : l.length ≤ 140737488351232) (hp : p ≤ l.length) (n : Int) : Calls Try.prog 43 #[.pointer (some ⟨g, 0, none⟩), .int .i64 n] w fun ex w' => ex = .returned (.bool (decide (e = 0 ∧ ¬ n > ((l.length - p : Nat) : Int)))) ∧
    w'.heap[g]? = some (.cells (rdCs B l.length c p (if e = 0 ∧ n > ((l.length - p : Nat) : Int) then 10 else e) true) 66 (0, 0)) ∧ Fr (· = g) w w' := by
  have K0 := Aside0.mk (Fr.of_below (F := (· = g)) (Below.refl w.heap.size w))
  have G1 := Aside0.mk hg
  have y2 := blk_frozen G1.out 2
  have hw : wrap64 ((l.length : Int) - (p : Int)) = ((l.length - p : Nat) : Int) := by rw [w64id (by omega) (by omega)]; omega
  have hw2 : IntKind.i64.wrap ((l.length : Int) - (p : Int)) = ((l.length - p : Nat) : Int) := by rw [← hw, i64_w]
  obtain ⟨z0, z1, z2, z3⟩ := rd_cells G1.out
  obtain ⟨m, hm⟩ : ∃ m, m = l.length - p := ⟨_, rfl⟩
  rw [← hm] at hw hw2 ⊢
  clear hl hp hg hm
  by_cases he : e = 0
  · subst he
    by_cases hn : n > (m : Int)
    · have hgd : decide ((m : Int) < n) = true := decide_eq_true hn
      have hgd2 : decide (n > (m : Int)) = true := decide_eq_true hn
      rw [if_pos ⟨rfl, hn⟩, decide_eq_false (fun h => h.2 hn)]
      clear hn
      go_enter Try.func43, Try.ntmps43
      go_wp2_with fail
      go_quiet (fail)
      have KN := Aside0.mk (Fr.of_below (F := (· = g)) (drawn_below (w := w) (w' := w.drewN nq) ⟨⟨nq, rfl⟩⟩))
      have GN := Aside0.mk (show (w.drewN nq).heap[g]? = _ from G1.out)
      go_wp2_with fail
      go_ret
      refine ⟨rfl, ?_, Fr.set (F := (· = g)) (p := ⟨g, 2, none⟩) KN.out rfl _⟩
      rw [blk_set GN.out 2 _]
      simp
    · have hgd : decide ((m : Int) < n) = false := decide_eq_false hn
      have hgd2 : decide (n > (m : Int)) = false := decide_eq_false hn
      rw [if_neg (fun h => hn h.2), decide_eq_true ⟨rfl, hn⟩]
      clear hn
      go_enter Try.func43, Try.ntmps43
      go_wp2_with fail
      go_quiet (fail)
      have KN := Aside0.mk (Fr.of_below (F := (· = g)) (drawn_below (w := w) (w' := w.drewN nq) ⟨⟨nq, rfl⟩⟩))
      have GN := Aside0.mk (show (w.drewN nq).heap[g]? = _ from G1.out)
      go_wp2_with fail
      go_ret
      exact ⟨rfl, GN.out, KN.out⟩
  · have hb1 : (e == 0) = false := by simpa using he
    rw [if_neg (fun h => he h.1), decide_eq_false (fun h => he h.1)]
    clear he
    go_enter Try.func43, Try.ntmps43
    go_wp2_with fail
    go_quiet (fail)
    have KN := Aside0.mk (Fr.of_below (F := (· = g)) (drawn_below (w := w) (w' := w.drewN nq) ⟨⟨nq, rfl⟩⟩))
    have GN := Aside0.mk (show (w.drewN nq).heap[g]? = _ from G1.out)
    go_wp2_with fail
    go_ret
    exact ⟨rfl, GN.out, KN.out⟩
end
end Go.Proofs.Ytnhihiadmllnkaa.Pure
