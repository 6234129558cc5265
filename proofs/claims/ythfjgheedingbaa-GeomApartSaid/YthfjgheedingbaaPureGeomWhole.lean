/- All blocks lie in just one area, as many in each as the plan says, one behind the other: walked. -/
import Derived.Test.YthfjgheedingbaaAreas
import Derived.Test.YthfjgheedingbaaMem
import Derived.ChangeKeysEq
import Derived.RangeFuncRecord
namespace Go.Proofs.Ythfjgheedingbaa.Pure
open Go.RowKit Go.Proofs.Ythfjgheedingbaa Go.Proofs.Ythfjgheedingbaa.PAll Go.Proofs.Ythfjgheedingbaa.Mem Go.Proofs.YthfjgheedingbaaW.PrintWords Go.Proofs.YthfjgheedingbaaW.PrintLast Go.Proofs.YthfjgheedingbaaW.PrintMore
set_option linter.unusedVariables false
set_option linter.unusedSimpArgs false

theorem heap_new (w : World) (o : Obj) : (w.alloc o).heap[w.heap.size]? = some o := World.alloc_heap_new w o
def ints (l : List Int) : List Value := l.map (Value.int .i64)
set_option maxRecDepth 100000 in
theorem eqS35 (d : Nat) (w : World) (x0 x1 x2 x3 x4 x5 x6 x7 : Int) : (Op.equalIn (d + 3) 35 (.agg #[.int .i64 x0, .int .i64 x1, .int .i64 x2, .int .i64 x3, .int .i64 x4, .int .i64 x5, .int .i64 x6, .int .i64 x7]) (.agg #[.int .i64 x0, .int .i64 x1, .int .i64 x2, .int .i64 x3, .int .i64 x4, .int .i64 x5, .int .i64 x6, .int .i64 x7])).run Try.prog w = .ok true w := by
  obtain ⟨i, hi⟩ : ∃ i, Try.prog.info? 3 = some i := ⟨_, rfl⟩
  rw [run_equalIn_array w (d + 2) _ _ Try.underlying35 hi]
  have hc : Try.prog.cellsOf 3 = 1 := by kernel_rfl
  rw [hc]
  have hu3 := Try.underlying3
  simp [List.range, List.range.loop, Op.eqItems, part, isAgg, run_underlying hu3, Sem.run_bind, Result.andThen_ok, go_sem, hu3]
attribute [local go_sem high] eqS35
theorem ints_cell {w : World} {g : Nat} {l : List Int} {t : TypeId} (h : w.heap[g]? = some (.cells (ints l).toArray t (0, 0))) (m : Nat) (hm : m < l.length) : w.cell? ⟨g, m, none⟩ = some (.int .i64 (l.getD m 0)) ∧ w.frozen? ⟨g, m, none⟩ = false := by
  refine ⟨?_, blk_frozen h m⟩
  rw [blk_cell h]
  simp [ints, List.getD_eq_getElem?_getD, List.getElem?_eq_getElem hm]
theorem ints_set {w : World} {g : Nat} {l : List Int} {t : TypeId} (h : w.heap[g]? = some (.cells (ints l).toArray t (0, 0))) (m : Nat) (v : Int) : (w.setCell ⟨g, m, none⟩ (.int .i64 v)).heap[g]? = some (.cells (ints (l.set m v)).toArray t (0, 0)) := by
  rw [blk_set h]
  simp [ints, List.map_set]
abbrev quad (a b c d : Int) : Array Value := #[.int .i64 a, .int .i64 b, .int .i64 c, .int .i64 d]
theorem quad_cells {w : World} {g : Nat} {a b c d : Int} {t : TypeId} (h : w.heap[g]? = some (.cells (quad a b c d) t (0, 0))) :
    w.cell? ⟨g, 0, none⟩ = some (.int .i64 a) ∧ w.cell? ⟨g, 1, none⟩ = some (.int .i64 b) ∧ w.cell? ⟨g, 2, none⟩ = some (.int .i64 c) ∧ w.cell? ⟨g, 3, none⟩ = some (.int .i64 d) := by
  refine ⟨?_, ?_, ?_, ?_⟩ <;> (unfold World.cell?; simp only [h]; rfl)
abbrev six (a b c d e f : Int) : Array Value := #[.int .i64 a, .int .i64 b, .int .i64 c, .int .i64 d, .int .i64 e, .int .i64 f]
theorem six_cells {w : World} {g : Nat} {a b c d e f : Int} {t : TypeId} (h : w.heap[g]? = some (.cells (six a b c d e f) t (0, 0))) :
    w.cell? ⟨g, 0, none⟩ = some (.int .i64 a) ∧ w.cell? ⟨g, 1, none⟩ = some (.int .i64 b) ∧ w.cell? ⟨g, 2, none⟩ = some (.int .i64 c) ∧ w.cell? ⟨g, 3, none⟩ = some (.int .i64 d) ∧ w.cell? ⟨g, 4, none⟩ = some (.int .i64 e) ∧ w.cell? ⟨g, 5, none⟩ = some (.int .i64 f) := by
  refine ⟨?_, ?_, ?_, ?_, ?_, ?_⟩ <;> (unfold World.cell?; simp only [h]; rfl)
def lastA (p1 p2 p3 p4 p5 p6 : Int) : Nat → Nat
  | 0 => 0
  | k + 1 => geom_Where.ar (startsL p1 p2 p3 p4 p5 p6) k 8
theorem last_le {p1 p2 p3 p4 p5 p6 a : Int} (u : Up p1 p2 p3 p4 p5 p6 a) (k : Nat) : lastA p1 p2 p3 p4 p5 p6 k ≤ geom_Where.ar (startsL p1 p2 p3 p4 p5 p6) k 8 := by
  cases k with
  | zero => exact Nat.zero_le _
  | succ k => exact ar_mono u (by omega) (by omega)
set_option maxRecDepth 100000 in
set_option maxHeartbeats 16000000 in
theorem whole_walk (w : World) (a b c d : Int) : Calls Try.prog 5 #[.agg (quad a b c d)] w fun e w' => e = .returned (.bool true) ∧ Below w.heap.size w w' := by
  have hu23 := Try.underlying23
  have hu25 := Try.underlying25
  obtain ⟨⟨p1, p2, p3, p4, p5, p6, pe⟩, hO, _⟩ := of_eq 1 a b c d (by omega)
  have HO := Aside0.mk hO
  have KK := Aside0.mk ((Below.refl w.heap.size w).alloc (Nat.le_refl _) (.cells (quad a b c d) 23))
  have G0 := Aside0.mk (heap_new w (.cells (quad a b c d) 23))
  rename_i hx
  clear hO hx
  go_enter Try.func5, Try.ntmps5
  go_wp2_with fail
  refine (geom_Of.calls a b c d p1 p2 p3 p4 p5 p6 pe _ HO.out).mono ?_
  rintro e w1 ⟨rfl, hb⟩
  obtain ⟨g3, hg⟩ : ∃ g, g = w1.heap.size := ⟨_, rfl⟩
  have hbn := hb.alloc hb.size (.cells #[.int .i64 p1, .int .i64 p2, .int .i64 p3, .int .i64 p4, .int .i64 p5, .int .i64 p6] 25)
  replace KK := Aside0.mk (KK.out.trans (hbn.mono KK.out.size))
  replace G0 := Aside0.mk ((hbn.block _ (blk_lt G0.out)).trans G0.out)
  have P3 := Aside0.mk (show (w1.alloc (.cells #[.int .i64 p1, .int .i64 p2, .int .i64 p3, .int .i64 p4, .int .i64 p5, .int .i64 p6] 25)).heap[g3]? = some (.cells #[.int .i64 p1, .int .i64 p2, .int .i64 p3, .int .i64 p4, .int .i64 p5, .int .i64 p6] 25 (0, 0)) from by rw [hg]; exact heap_new w1 _)
  clear hb hbn
  go_wp2_with fail
  rw [← hg]
  clear hg
  refine (atticlaw04_begun.calls true _ begun_true).mono ?_
  rintro e w2 ⟨rfl, hb⟩
  replace KK := Aside0.mk (KK.out.trans (hb.mono KK.out.size))
  replace G0 := Aside0.mk ((hb.block _ (blk_lt G0.out)).trans G0.out)
  replace P3 := Aside0.mk ((hb.block _ (blk_lt P3.out)).trans P3.out)
  clear hb
  by_cases hpe : pe = 0
  case neg =>
    have hb1 : (pe != 0) = true := by simpa using hpe
    clear hpe
    go_wp2_with fail
    refine (atticlaw04_begun.calls true _ begun_true).mono ?_
    rintro e w3 ⟨rfl, hb⟩
    replace KK := Aside0.mk (KK.out.trans (hb.mono KK.out.size))
    clear hb
    go_wp2_with fail
    go_ret
    exact ⟨by simp, KK.out⟩
  subst hpe
  have hp := of_ok HO.out rfl
  simp only [] at hp
  have u := up_of hp
  have U := Aside0.mk u
  have PP := Aside0.mk hp
  clear u hp
  obtain ⟨g5, hg⟩ : ∃ g, g = w2.heap.size := ⟨_, rfl⟩
  have hbn := (Below.refl w2.heap.size w2).alloc (Nat.le_refl _) (.cells #[.int .i64 0, .int .i64 0, .int .i64 0, .int .i64 0, .int .i64 0, .int .i64 0, .int .i64 0, .int .i64 0] 35)
  have NE := Aside0.mk (show w.heap.size ≠ g5 ∧ g3 ≠ g5 ∧ w.heap.size ≤ g5 from by
    have q1 := blk_lt G0.out
    have q2 := blk_lt P3.out
    omega)
  replace KK := Aside0.mk (KK.out.trans (hbn.mono KK.out.size))
  replace G0 := Aside0.mk ((hbn.block _ (blk_lt G0.out)).trans G0.out)
  replace P3 := Aside0.mk ((hbn.block _ (blk_lt P3.out)).trans P3.out)
  have M5 := Aside0.mk (show (w2.alloc (.cells #[.int .i64 0, .int .i64 0, .int .i64 0, .int .i64 0, .int .i64 0, .int .i64 0, .int .i64 0, .int .i64 0] 35)).heap[g5]? = some (.cells (ints [0, 0, 0, 0, 0, 0, 0, 0]).toArray 35 (0, 0)) from by rw [hg]; exact heap_new w2 _)
  clear hbn
  obtain ⟨m0, m1, m2, m3⟩ := quad_cells G0.out
  go_wp2_with fail
  clear m0 m1 m2 m3
  rw [← hg]
  clear hg
  go_loopg [6, 25] a.toNat (fun q v6 v25 w' => ∃ (k : Nat), v25 = .int .i64 (k : Int) ∧ v6 = .int .i64 (lastA p1 p2 p3 p4 p5 p6 k : Nat) ∧ Aside0 (k + q = a.toNat) ∧ Aside0 (w'.heap[w.heap.size]? = some (.cells (quad a b c d) 23 (0, 0))) ∧ Aside0 (w'.heap[g3]? = some (.cells (six p1 p2 p3 p4 p5 p6) 25 (0, 0))) ∧ Aside0 (w'.heap[g5]? = some (.cells (ints (cntL p1 p2 p3 p4 p5 p6 a k)).toArray 35 (0, 0))) ∧ Aside0 (Below w.heap.size w w'))
  case atStart => exact ⟨0, rfl, rfl, ⟨by omega⟩, G0, P3, ⟨by rw [show ((0 : Nat) : Int) = 0 from rfl, cnt_zero _ _ _ _ _ _ _ U.out]; exact M5.out⟩, KK⟩
  case round =>
    clear G0 P3 M5 KK
    obtain ⟨k, rfl, rfl, HJ, G0, P3, M5, KK⟩ := hrel
    have ha0 : 0 ≤ a := by have := U.out.h1; have := U.out.h2; have := U.out.h3; have := U.out.h4; have := U.out.h5; have := U.out.h6; have := U.out.h7; omega
    by_cases hlt : (k : Int) < a
    case pos =>
      have hgd : decide ((k : Int) < a) = true := decide_eq_true hlt
      have HN := Aside0.mk (show k + 1 + (gk - 1) = a.toNat from by have := HJ.out; omega)
      have HM := Aside0.mk (show gk - 1 < gk from by have := HJ.out; omega)
      obtain ⟨m, hm⟩ : ∃ m, m = geom_Where.ar (startsL p1 p2 p3 p4 p5 p6) k 8 := ⟨_, rfl⟩
      have hm8 : m < 8 := by rw [hm]; exact area_lt
      have HW := Aside0.mk (show geom_Where.f a b c d k = some ((m : Int), (cntL p1 p2 p3 p4 p5 p6 a k).getD m 0, 0) from by rw [hm]; exact where_in HO.out k (by omega) hlt)
      have HS := Aside0.mk (area_step U.out (by omega) hlt m hm).2.1
      have HL := Aside0.mk (show lastA p1 p2 p3 p4 p5 p6 (k + 1) = m from hm.symm)
      have hl1 : decide ((m : Int) < (lastA p1 p2 p3 p4 p5 p6 k : Nat)) = false := decide_eq_false (by have := last_le U.out k; omega)
      have hl3 : decide (m < lastA p1 p2 p3 p4 p5 p6 k) = false := decide_eq_false (by have := last_le U.out k; omega)
      have hl4 : decide (7 < m) = false := decide_eq_false (by omega)
      have hl2 : decide ((m : Int) > 7) = false := decide_eq_false (by omega)
      have hkb : k < 3000 := by have := U.out.h8; omega
      obtain ⟨n, hn⟩ : ∃ n, n = (cntL p1 p2 p3 p4 p5 p6 a k).getD m 0 := ⟨_, rfl⟩
      rw [← hn] at HW HS
      clear hm hlt ha0 HJ
      obtain ⟨m0, m1, m2, m3⟩ := quad_cells G0.out
      go_wp2_with fail
      clear m0 m1 m2 m3
      refine (geom_Where.calls a b c d k _ _ _ _ HW.out).mono ?_
      rintro e w3 ⟨rfl, hb⟩
      replace KK := Aside0.mk (KK.out.trans (hb.mono KK.out.size))
      replace G0 := Aside0.mk ((hb.block _ (blk_lt G0.out)).trans G0.out)
      replace P3 := Aside0.mk ((hb.block _ (blk_lt P3.out)).trans P3.out)
      replace M5 := Aside0.mk ((hb.block _ (blk_lt M5.out)).trans M5.out)
      clear hb
      have M6 := Aside0.mk (ints_set M5.out m (wrap64 (n + 1)))
      rw [← HS.out, show (k : Int) + 1 = ((k + 1 : Nat) : Int) by omega] at M6
      obtain ⟨hc, hf⟩ := ints_cell M5.out m (by rw [cnt_length]; exact hm8)
      rw [← hn] at hc
      clear hn
      have K2 := Aside0.mk (KK.out.setCell (p := ⟨g5, m, none⟩) NE.out.2.2 (.int .i64 (wrap64 (n + 1))))
      have G02 := Aside0.mk ((Below.heap_setCell w3 ⟨g5, m, none⟩ (.int .i64 (wrap64 (n + 1))) w.heap.size NE.out.1).trans G0.out)
      have P32 := Aside0.mk ((Below.heap_setCell w3 ⟨g5, m, none⟩ (.int .i64 (wrap64 (n + 1))) g3 NE.out.2.1).trans P3.out)
      go_wp2_with fail
      go_roundg (gk - 1)
      case measure => exact HM.out
      case rel => exact ⟨k + 1, by go_num, by rw [HL.out], HN, G02, P32, M6, K2⟩
    have hke : (k : Int) = a := by have := HJ.out; omega
    have hgd : decide ((k : Int) < a) = false := decide_eq_false hlt
    rw [hke, cnt_all _ _ _ _ _ _ _ U.out] at M5
    clear hlt ha0 HJ
    obtain ⟨m0, m1, m2, m3⟩ := quad_cells G0.out
    obtain ⟨n0, n1, n2, n3, n4, n5⟩ := six_cells P3.out
    have h0 := (ints_cell M5.out 0 (by simp)).1
    have h1 := (ints_cell M5.out 1 (by simp)).1
    have h2 := (ints_cell M5.out 2 (by simp)).1
    have h3 := (ints_cell M5.out 3 (by simp)).1
    have h4 := (ints_cell M5.out 4 (by simp)).1
    have h5 := (ints_cell M5.out 5 (by simp)).1
    have h6 := (ints_cell M5.out 6 (by simp)).1
    have h7 := (ints_cell M5.out 7 (by simp)).1
    simp only [List.getD_cons_zero, List.getD_cons_succ] at h0 h1 h2 h3 h4 h5 h6 h7
    have e2 : p1 - 2 = 1 := by have := PP.out.p1; simp only [] at this; omega
    have e3 : p2 - p1 = b := by have := PP.out.p1; have := PP.out.p2; simp only [] at *; omega
    have e4 : p5 - p4 = c := by have := PP.out.p4; have := PP.out.p5; simp only [] at *; omega
    have e5 : p6 - p5 = wrap64 (4 * d) := by have := PP.out.p6; have := PP.out.p5; have := PP.out.hd; simp only [] at *; unfold wrap64; omega
    have e6 : p3 - p2 = wrap64 (p3 - p2) := by have u := U.out; have := u.h1; have := u.h2; have := u.h3; have := u.h4; have := u.h5; have := u.h6; have := u.h7; have := u.h8; unfold wrap64; omega
    have e7 : p4 - p3 = wrap64 (p4 - p3) := by have u := U.out; have := u.h1; have := u.h2; have := u.h3; have := u.h4; have := u.h5; have := u.h6; have := u.h7; have := u.h8; unfold wrap64; omega
    have e8 : a - p6 = wrap64 (a - p6) := by have u := U.out; have := u.h1; have := u.h2; have := u.h3; have := u.h4; have := u.h5; have := u.h6; have := u.h7; have := u.h8; unfold wrap64; omega
    rw [e2] at h1
    rw [e3] at h2
    rw [e6] at h3
    rw [e7] at h4
    rw [e4] at h5
    rw [e5] at h6
    rw [e8] at h7
    clear e2 e3 e4 e5 e6 e7 e8
    go_wp2_with fail
    go_ret
    exact ⟨by simp, KK.out⟩
theorem GeomWhole (w : World) (a : Int) (_ : (Lit.int .i64 a).wf = true) (b : Int) (_ : (Lit.int .i64 b).wf = true) (c : Int) (_ : (Lit.int .i64 c).wf = true) (d : Int) (_ : (Lit.int .i64 d).wf = true) : Calls Try.prog 5 #[.agg #[.int .i64 a, .int .i64 b, .int .i64 c, .int .i64 d]] w fun e w' => e = .returned (.bool true) ∧ Below w.heap.size w w' := whole_walk w a b c d
end Go.Proofs.Ythfjgheedingbaa.Pure
