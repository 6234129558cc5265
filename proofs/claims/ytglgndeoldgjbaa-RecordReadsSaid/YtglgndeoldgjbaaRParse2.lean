/- The document's reading of a sector: its walk. -/
import Derived.Test.YtglgndeoldgjbaaRParse
import Derived.Test.YtglgndeoldgjbaaPureRecordWrites
import Derived.Deep.RegionHeld3
namespace Go.Proofs.Ytglgndeoldgjbaa.Pure
open Go.RowKit Go.Proofs.Ytglgndeoldgjbaa Go.Proofs.Ytglgndeoldgjbaa.PTwo Go.Proofs.Ytglgndeoldgjbaa.Mem Go.Proofs.YtglgndeoldgjbaaW.PrintWords Go.Proofs.YtglgndeoldgjbaaW.PrintLast Go.Proofs.YtglgndeoldgjbaaW.PrintMore
attribute [local go_sem] max2_int min2_int max_two min_two
set_option linter.unusedVariables false
set_option linter.unusedSimpArgs false
set_option linter.unusedSectionVars false

theorem part_C {w : World} {ad : Addr} {l : List Int} (h : Kd.C (Kd.int .u8) w (some ad) l.length l) {fr n : Nat} (hf : 0 < fr) (hn : 0 < n) (hl : fr + n ≤ l.length) : Kd.C (Kd.int .u8) w (some ⟨ad.block, ad.off + fr, none⟩) n ((l.drop fr).take n) := by
  have h3 := Kd.C_take h hl
  have hl2 : (l.take (fr + n)).length = fr + n := by rw [List.length_take]; omega
  have h4 := Kd.C_drop (c := fr + n) h3 (m := fr) (by omega) (by omega)
  rw [List.length_drop, hl2] at h4
  have hs : (Kd.int .u8).sz = 1 := rfl
  rw [hs, Nat.mul_one, if_neg (by omega), show fr + n - fr = n by omega, List.drop_take, show fr + n - fr = n by omega] at h4
  simp only [Option.map_some, Go.Addr.add] at h4
  rw [if_neg (by omega)] at h4
  exact h4
theorem rnumber_c {w : World} {A : Option Addr} {c : Nat} {l : List Int} (hC : Kd.C (Kd.int .u8) w A l.length l) (hc : l.length ≤ c) (hb : Bytes l) (hl : l.length ≤ 8) {v : Nat} (hv : gnum l = v) :
    Calls Try.prog 31 #[.slice A l.length c] w fun e w' => e = .returned (.int .u64 (v : Int)) ∧ Below w.heap.size w w' := by
  refine (PRef.atticref06_number.calls 9 A c l _ w hC hc (by rw [rnumber_f 9 l hb hl (by decide), hv])).mono ?_
  rintro e w' ⟨rfl, hb⟩
  exact ⟨rfl, drawn_below hb⟩
theorem part_num {w : World} {ad : Addr} {l : List Int} (h : Kd.C (Kd.int .u8) w (some ad) l.length l) (hb : Bytes l) {fr n c : Nat} (hf : 0 < fr) (hn : 0 < n) (hn8 : n ≤ 8) (hl : fr + n ≤ l.length) (hc : l.length ≤ c) {v : Nat} (hv : getL l fr n = v) :
    Calls Try.prog 31 #[.slice (some ⟨ad.block, ad.off + fr, none⟩) n (c - fr)] w fun e w' => e = .returned (.int .u64 (v : Int)) ∧ Below w.heap.size w w' := by
  have hlen : ((l.drop fr).take n).length = n := by rw [List.length_take, List.length_drop]; omega
  have hq := rnumber_c (w := w) (A := some ⟨ad.block, ad.off + fr, none⟩) (c := c - fr) (l := (l.drop fr).take n) (by rw [hlen]; exact part_C h hf hn hl) (by rw [hlen]; omega) (fun x hx => hb x (List.mem_of_mem_drop (List.mem_of_mem_take hx))) (by omega) hv
  rw [hlen] at hq
  exact hq
/-- Five cells laid over a box of five. -/
theorem set5 {w w1 : World} {B g : Nat} {t : TypeId} {x0 x1 x2 x3 x4 : Value} (h : w1.heap[g]? = some (.cells #[x0, x1, x2, x3, x4] t (0, 0))) (hK : Below B w w1) (hg : B ≤ g) (v0 v1 v2 v3 v4 : Value) :
    (((((w1.setCell ⟨g, 0, none⟩ v0).setCell ⟨g, 1, none⟩ v1).setCell ⟨g, 2, none⟩ v2).setCell ⟨g, 3, none⟩ v3).setCell ⟨g, 4, none⟩ v4).heap[g]? = some (.cells #[v0, v1, v2, v3, v4] t (0, 0)) ∧
    Below B w (((((w1.setCell ⟨g, 0, none⟩ v0).setCell ⟨g, 1, none⟩ v1).setCell ⟨g, 2, none⟩ v2).setCell ⟨g, 3, none⟩ v3).setCell ⟨g, 4, none⟩ v4) :=
  ⟨by rw [blk_set (blk_set (blk_set (blk_set (blk_set h 0 v0) 1 v1) 2 v2) 3 v3) 4 v4]; simp, ((((hK.setCell (p := ⟨g, 0, none⟩) hg v0).setCell (p := ⟨g, 1, none⟩) hg v1).setCell (p := ⟨g, 2, none⟩) hg v2).setCell (p := ⟨g, 3, none⟩) hg v3).setCell (p := ⟨g, 4, none⟩) hg v4⟩
theorem set5b {w w1 : World} {B g : Nat} {t : TypeId} {x0 x1 x2 x3 x4 : Value} (h : w1.heap[g]? = some (.cells #[x0, x1, x2, x3, x4] t (0, 0))) (hK : Below B w w1) (hg : B ≤ g) (v4 : Value) :
    (w1.setCell ⟨g, 4, none⟩ v4).heap[g]? = some (.cells #[x0, x1, x2, x3, v4] t (0, 0)) ∧ Below B w (w1.setCell ⟨g, 4, none⟩ v4) :=
  ⟨by rw [blk_set h 4 v4]; simp, hK.setCell (p := ⟨g, 4, none⟩) hg v4⟩
theorem C_none (w : World) : Kd.C (Kd.int .u8) w none ([] : List Int).length [] := ⟨rfl, by decide, fun h => absurd h (by decide)⟩
section
variable {w : World} {A : Option Addr} {c : Nat} {l : List Int} (hC : Kd.C (Kd.int .u8) w A l.length l) (hc : l.length ≤ c) (hb : Bytes l) (hl : l.length ≤ 140737488351232)
include hC hc hb hl
set_option maxRecDepth 100000 in
set_option maxHeartbeats 4000000 in
theorem rparse_long (h64 : l.length ≠ 64) : Calls Try.prog 29 #[.slice A l.length c] w fun e w' => e = .returned (.tuple #[.agg #[.int .i64 0, .int .i64 0, .int .i64 0, .slice none 0 0, .int .i64 0], .int .i64 0, .bool false]) ∧ Below w.heap.size w w' := by
  have hu24 := Try.underlying24
  have hgd : decide (((l.length : Nat) : Int) = 64) = false := decide_eq_false (by omega)
  have hgd2 : decide (l.length = 64) = false := decide_eq_false h64
  have hlI : (l.length : Int) ≤ 140737488351232 := by omega
  have K0 := Aside0.mk (Below.refl w.heap.size w)
  clear hC hc hb hl
  go_enter Try.func29, Try.ntmps29
  go_wp2_with fail
  refine bodyPost_ret (results_ctt rfl _ _ w.heap.size 24 #[.int .i64 0, .int .i64 0, .int .i64 0, .slice none 0 0, .int .i64 0] (0, 0) _ rfl (heap_new _ _) Try.underlying24 rfl (by kernel_rfl)) rfl ?_
  exact ⟨rfl, K0.out.alloc (Nat.le_refl _) _⟩
set_option maxRecDepth 100000 in
set_option maxHeartbeats 4000000 in
theorem rparse_big (h64 : l.length = 64) (h1 : rd l 1 > 44) : Calls Try.prog 29 #[.slice A l.length c] w fun e w' => e = .returned (.tuple #[.agg #[.int .i64 0, .int .i64 0, .int .i64 0, .slice none 0 0, .int .i64 0], .int .i64 0, .bool false]) ∧ Below w.heap.size w w' := by
  have hu24 := Try.underlying24
  have hlI : (l.length : Int) ≤ 140737488351232 := by omega
  have hgd : decide (((l.length : Nat) : Int) = 64) = true := decide_eq_true (by omega)
  have hgd2 : decide (l.length = 64) = true := decide_eq_true h64
  have hg1 : decide (rd l 1 > 44) = true := decide_eq_true h1
  have hg2 : decide (44 < rd l 1) = true := decide_eq_true h1
  have K0 := Aside0.mk (Below.refl w.heap.size w)
  obtain ⟨ad, rfl, hx⟩ := Kd.at_int (Kd.C_alloc hC (.cells #[.int .i64 0, .int .i64 0, .int .i64 0, .slice none 0 0, .int .i64 0] 24)) 1 (by decide) (by omega)
  simp only [show (1 : Int).toNat = 1 from rfl, Nat.reduceMul, Nat.reduceEqDiff, Go.Addr.add, ↓reduceIte] at hx
  clear hC hb hl
  go_enter Try.func29, Try.ntmps29
  go_wp2_with fail
  refine bodyPost_ret (results_ctt rfl _ _ w.heap.size 24 #[.int .i64 0, .int .i64 0, .int .i64 0, .slice none 0 0, .int .i64 0] (0, 0) _ rfl (heap_new _ _) Try.underlying24 rfl (by kernel_rfl)) rfl ?_
  exact ⟨rfl, K0.out.alloc (Nat.le_refl _) _⟩
set_option maxRecDepth 100000 in
set_option maxHeartbeats 4000000 in
theorem rparse_far (h64 : l.length = 64) (h1 : ¬ rd l 1 > 44) (v : Nat) (hv : getL l 2 8 = v) (hbig : v > 2305843009213693952) : Calls Try.prog 29 #[.slice A l.length c] w fun e w' => e = .returned (.tuple #[.agg #[.int .i64 0, .int .i64 0, .int .i64 0, .slice none 0 0, .int .i64 0], .int .i64 0, .bool false]) ∧ Below w.heap.size w w' := by
  have hu24 := Try.underlying24
  have hlI : (l.length : Int) ≤ 140737488351232 := by omega
  have hgd : decide (((l.length : Nat) : Int) = 64) = true := decide_eq_true (by omega)
  have hgd2 : decide (l.length = 64) = true := decide_eq_true h64
  have hg1 : decide (rd l 1 > 44) = false := decide_eq_false h1
  have hg2 : decide (44 < rd l 1) = false := decide_eq_false h1
  have hv1 : decide ((v : Int) > 2305843009213693952) = true := decide_eq_true (by omega)
  have hv2 : decide (2305843009213693952 < v) = true := decide_eq_true hbig
  have HC := Aside0.mk hC
  have HB := Aside0.mk hb
  have HV := Aside0.mk hv
  have K0 := Aside0.mk (Below.refl w.heap.size w)
  obtain ⟨ad, rfl, hx⟩ := Kd.at_int (Kd.C_alloc hC (.cells #[.int .i64 0, .int .i64 0, .int .i64 0, .slice none 0 0, .int .i64 0] 24)) 1 (by decide) (by omega)
  simp only [show (1 : Int).toNat = 1 from rfl, Nat.reduceMul, Nat.reduceEqDiff, Go.Addr.add, ↓reduceIte] at hx
  clear hC hb hl
  go_enter Try.func29, Try.ntmps29
  go_wp2_with fail
  refine (part_num (Kd.C_alloc HC.out _) HB.out (fr := 2) (n := 8) (by decide) (by decide) (by decide) (by omega) hc HV.out).mono ?_
  rintro e w1 ⟨rfl, hb1⟩
  have hK1 := ((Below.refl w.heap.size w).alloc (Nat.le_refl _) (.cells #[.int .i64 0, .int .i64 0, .int .i64 0, .slice none 0 0, .int .i64 0] 24)).trans (hb1.mono (by simp))
  have B1 := Aside0.mk ((hb1.block _ (by simp)).trans (heap_new w (.cells #[.int .i64 0, .int .i64 0, .int .i64 0, .slice none 0 0, .int .i64 0] 24)))
  have K1 := Aside0.mk hK1
  clear hb1 hK1
  obtain ⟨z0, z1, z2, z3, z4⟩ := rec_cells B1.out
  have y0 := blk_frozen B1.out 0
  have y1 := blk_frozen B1.out 1
  have y2 := blk_frozen B1.out 2
  have y3 := blk_frozen B1.out 3
  have y4 := blk_frozen B1.out 4
  go_wp2_with fail
  obtain ⟨hs, hk⟩ := set5 B1.out K1.out (Nat.le_refl _) (.int .i64 0) (.int .i64 0) (.int .i64 0) (.slice none 0 0) (.int .i64 0)
  refine bodyPost_ret (results_ctt rfl _ _ w.heap.size 24 #[.int .i64 0, .int .i64 0, .int .i64 0, .slice none 0 0, .int .i64 0] (0, 0) _ rfl hs Try.underlying24 rfl (by kernel_rfl)) rfl ?_
  exact ⟨rfl, hk⟩
end
end Go.Proofs.Ytglgndeoldgjbaa.Pure
