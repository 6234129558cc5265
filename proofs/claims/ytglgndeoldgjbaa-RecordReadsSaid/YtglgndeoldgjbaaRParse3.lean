/- The document's reading of a sector: its walk. -/
import Derived.Test.YtglgndeoldgjbaaRParse2
import Derived.Deep.RegionHeld3
namespace Go.Proofs.Ytglgndeoldgjbaa.Pure
open Go.RowKit Go.Proofs.Ytglgndeoldgjbaa Go.Proofs.Ytglgndeoldgjbaa.PTwo Go.Proofs.Ytglgndeoldgjbaa.Mem Go.Proofs.YtglgndeoldgjbaaW.PrintWords Go.Proofs.YtglgndeoldgjbaaW.PrintLast Go.Proofs.YtglgndeoldgjbaaW.PrintMore
attribute [local go_sem] max2_int min2_int max_two min_two
set_option linter.unusedVariables false
set_option linter.unusedSimpArgs false
set_option linter.unusedSectionVars false

def rparse_T11 : Bool × List (List Nat × List Nat) := (true, [([], []), ([], []), ([], []), ([2], [2]), ([3], [3]), ([4], [4]), ([5, 4], [4, 5]), ([4], [4]), ([7, 4], [4, 7]), ([6, 8, 4], [4, 6, 8]), ([4, 9], [4, 9]), ([0, 4, 0], [0]), ([1, 11, 0, 1, 11], [1]), ([10, 12, 0, 1, 2, 3, 4, 5, 6, 7, 8, 9, 10, 11, 12], [10])])
def rparse_B11 : List Nat := [0, 0, 0, 4, 12, 28, 60, 28, 156, 508, 1020, 29, 2079, 8191]
theorem rparse_tab11 : rtab .any (opsOf Try.f29 11) = rparse_T11 := by kernel_rfl
theorem rparse_bits11 : waitsOk rparse_T11.2 rparse_B11 = true := by kernel_rfl
theorem only5 (g : Nat) (w : World) (v0 v1 v2 v3 v4 : Value) : Only g w (((((w.setCell ⟨g, 0, none⟩ v0).setCell ⟨g, 1, none⟩ v1).setCell ⟨g, 2, none⟩ v2).setCell ⟨g, 3, none⟩ v3).setCell ⟨g, 4, none⟩ v4) :=
  only_trans (only_trans (only_trans (only_trans (only_setCell w ⟨g, 0, none⟩ v0) (only_setCell _ ⟨g, 1, none⟩ v1)) (only_setCell _ ⟨g, 2, none⟩ v2)) (only_setCell _ ⟨g, 3, none⟩ v3)) (only_setCell _ ⟨g, 4, none⟩ v4)
theorem own_nil (w : World) (base : Nat) : Own w base none 0 [] := ⟨Nat.le_refl _, C_none w, fun h => absurd h (by decide)⟩
theorem str_eq {r l : List Int} (hr : Bytes r) (hl : Bytes l) : ((strOfNums r).toList == (strOfNums l).toList) = decide ((0 : Int) = 0 ∧ r = l) := by
  rw [Go.Lib.strOfNums_toList, Go.Lib.strOfNums_toList]
  by_cases h : r = l
  · subst h
    simp
  · rw [decide_eq_false (fun e => h e.2), beq_eq_false_iff_ne]
    exact fun e => h (map8_inj r l hr hl e)
theorem bytesA_bytes {lsn kind block off : Int} {data : List Int} {many : Int} {r : List Int} (hd : Bytes data) (h : bytesA lsn kind block off data many = (r, 0)) : Bytes r := by
  have h2 := bytesA_zero hd (by rw [h])
  rw [h] at h2
  exact says_bytes h2
theorem n64 {w : World} {A : Option Addr} {l : List Int} (h : l.length = 64) (hC : Kd.C (Kd.int .u8) w A l.length l) : Kd.C (Kd.int .u8) w A 64 l := by
  rwa [h] at hC
section
variable {w : World} {A : Option Addr} {c : Nat} {l : List Int} (hC : Kd.C (Kd.int .u8) w A l.length l) (hc : l.length ≤ c) (hb : Bytes l) (hl : l.length ≤ 140737488351232)
include hC hc hb hl
set_option maxRecDepth 100000 in
set_option maxHeartbeats 4000000 in
theorem rparse_two (h64 : l.length = 64) (h1 : ¬ rd l 1 > 44) (v : Nat) (hv : getL l 2 8 = v) (hsm : v ≤ 2305843009213693952) (d : Int) (hd : rd l 0 = d) (hd2 : d ≠ 1) (mm : Nat) (hmm : getL l 10 4 = mm) (r : List Int) (n : Int) (hr : bytesA (v : Int) d 0 0 [] (mm : Int) = (r, n)) : Calls Try.prog 29 #[.slice A l.length c] w fun e w' => ∃ B k, e = .returned (.tuple #[.agg #[.int .i64 d, .int .i64 0, .int .i64 0, .slice B 0 k, .int .i64 (mm : Int)], .int .i64 (v : Int), .bool (decide (n = 0 ∧ r = l))]) ∧ Own w' w.heap.size B k [] ∧ Below w.heap.size w w' := by
  have hu24 := Try.underlying24
  have hlI : (l.length : Int) ≤ 140737488351232 := by omega
  have hgd : decide (((l.length : Nat) : Int) = 64) = true := decide_eq_true (by omega)
  have hgd2 : decide (l.length = 64) = true := decide_eq_true h64
  have hg1 : decide (rd l 1 > 44) = false := decide_eq_false h1
  have hg2 : decide (44 < rd l 1) = false := decide_eq_false h1
  have hv1 : decide ((v : Int) > 2305843009213693952) = false := decide_eq_false (by omega)
  have hv2 : decide (2305843009213693952 < v) = false := decide_eq_false (by omega)
  have HC := Aside0.mk hC
  have HB := Aside0.mk hb
  have HV := Aside0.mk hv
  have K0 := Aside0.mk (Below.refl w.heap.size w)
  obtain ⟨ad, rfl, hx⟩ := Kd.at_int (Kd.C_alloc hC (.cells #[.int .i64 0, .int .i64 0, .int .i64 0, .slice none 0 0, .int .i64 0] 24)) 1 (by decide) (by omega)
  simp only [show (1 : Int).toNat = 1 from rfl, Nat.reduceMul, Nat.reduceEqDiff, Go.Addr.add, ↓reduceIte] at hx
  clear hC hb hl
  go_enter Try.func29, Try.ntmps29
  go_wp2_with fail
  refine (part_num (Kd.C_alloc HC.out _) HB.out (fr := 2) (n := 8) (by decide) (by decide) (by decide) (by omega) hc HV.out).mono ?_
  rintro e w1 ⟨rfl, hb1⟩
  have hK1 := ((Below.refl w.heap.size w).alloc (Nat.le_refl _) (.cells #[.int .i64 0, .int .i64 0, .int .i64 0, .slice none 0 0, .int .i64 0] 24)).trans (hb1.mono (by simp))
  have B1 := Aside0.mk ((hb1.block _ (by simp)).trans (heap_new w (.cells #[.int .i64 0, .int .i64 0, .int .i64 0, .slice none 0 0, .int .i64 0] 24)))
  have K1 := Aside0.mk hK1
  have C1 := Aside0.mk (Kd.C_below (Kd.C_alloc HC.out (.cells #[.int .i64 0, .int .i64 0, .int .i64 0, .slice none 0 0, .int .i64 0] 24)) hb1)
  obtain ⟨ad0, e0, hx0⟩ := Kd.at_int C1.out 0 (by decide) (by omega)
  cases e0
  simp only [show (0 : Int).toNat = 0 from rfl, Addr.add_zero'] at hx0
  have hdb := rd_byte HB.out (show 0 < l.length by omega)
  simp only [Int.natCast_zero] at hdb
  rw [hd] at hdb
  have hwd : wrap64 d = d := w64id (by omega) (by omega)
  have hd1 : (d == 1) = false := by simpa using hd2
  have hmb : mm < 4294967296 := by
    rw [← hmm]
    exact getL_lt l 10 4 HB.out (by omega)
  have HM := Aside0.mk hmm
  clear hb1 hK1
  go_wp2_with fail
  refine (part_num (Kd.C_alloc C1.out _) HB.out (fr := 10) (n := 4) (by decide) (by decide) (by decide) (by omega) hc HM.out).mono ?_
  rintro e w2 ⟨rfl, hb2⟩
  have C2 := Aside0.mk (Kd.C_below (Kd.C_alloc C1.out (.cells #[.int .i64 d, .int .i64 0, .int .i64 0, .slice none 0 0, .int .i64 0] 24)) hb2)
  have K2 := Aside0.mk ((K1.out.alloc K1.out.size (.cells #[.int .i64 d, .int .i64 0, .int .i64 0, .slice none 0 0, .int .i64 0] 24)).trans (hb2.mono (Nat.le_trans K1.out.size (by simp))))
  have R2 := Aside0.mk ((hb2.block _ (by simp)).trans (heap_new w1 (.cells #[.int .i64 d, .int .i64 0, .int .i64 0, .slice none 0 0, .int .i64 0] 24)))
  have B2 := Aside0.mk ((hb2.block w.heap.size (by have := blk_lt B1.out; simp; omega)).trans ((Below.heap_alloc w1 _ w.heap.size (by have := blk_lt B1.out; omega)).trans B1.out))
  have NE := Aside0.mk (show w.heap.size < w1.heap.size from blk_lt B1.out)
  clear hb2
  obtain ⟨z0, z1, z2, z3, z4⟩ := rec_cells R2.out
  have y4 := blk_frozen R2.out 4
  clear z0 z1 z2 z3 hx hx0 hgd hgd2 hg1 hg2 hv1 hv2 hd1 hwd
  have hwm : wrap64 (mm : Int) = (mm : Int) := w64id (by omega) (by omega)
  go_wp2_with fail
  have BS := Aside0.mk (set5b R2.out K2.out (Nat.le_trans (Nat.le_of_lt NE.out) (Nat.le_refl _)) (.int .i64 (mm : Int)))
  have CS := Aside0.mk (Kd.C_below HC.out BS.out.2)
  have B3 := Aside0.mk ((Below.heap_setCell w2 ⟨w1.heap.size, 4, none⟩ (.int .i64 (mm : Int)) w.heap.size (by have := NE.out; simp; omega)).trans B2.out)
  refine (part_num CS.out HB.out (fr := 2) (n := 8) (by decide) (by decide) (by decide) (by omega) hc HV.out).mono ?_
  rintro e w3 ⟨rfl, hb3⟩
  have K3 := Aside0.mk (BS.out.2.trans (hb3.mono BS.out.2.size))
  have R3 := Aside0.mk ((hb3.block _ (blk_lt BS.out.1)).trans BS.out.1)
  have B4 := Aside0.mk ((hb3.block _ (blk_lt B3.out)).trans B3.out)
  have C3 := Aside0.mk (Kd.C_below HC.out K3.out)
  clear hb3 z4 y4
  obtain ⟨z0, z1, z2, z3, z4⟩ := rec_cells R3.out
  have hwv : wrap64 (v : Int) = (v : Int) := w64id (by omega) (by omega)
  have HR := Aside0.mk hr
  clear hr hwm hmm hv hd hd2
  go_wp2_with fail
  refine (rbytes_c (A := none) (c := 0) (l := []) d 0 0 (mm : Int) (v : Int) (C_none w3) (by decide) (fun x hx => by cases hx) (by decide) HR.out).mono ?_
  rintro e w4 ⟨Y, cy, rfl, hY, hb4⟩
  have K4 := Aside0.mk (K3.out.trans (hb4.mono K3.out.size))
  have R4 := Aside0.mk ((hb4.block _ (blk_lt R3.out)).trans R3.out)
  have B5 := Aside0.mk ((hb4.block _ (blk_lt B4.out)).trans B4.out)
  have C4 := Aside0.mk (Kd.C_below HC.out K4.out)
  have Y4 := Aside0.mk hY
  clear hb4 hY z0 z1 z2 z3 z4
  obtain ⟨z0, z1, z2, z3, z4⟩ := rec_cells R4.out
  by_cases hn0 : n = 0
  case pos =>
    subst hn0
    go_wp2_with fail
    have hbn := below_drew (Below.refl w4.heap.size w4)
    have K5 := Aside0.mk (K4.out.trans (hbn.mono K4.out.size))
    have R5 := Aside0.mk ((hbn.block _ (blk_lt R4.out)).trans R4.out)
    have RB := Aside0.mk ((hbn.block _ (blk_lt B5.out)).trans B5.out)
    have C5 := Aside0.mk (Kd.C_below C4.out hbn)
    have Y5 := Aside0.mk (own_below Y4.out hbn)
    have NY := Aside0.mk (show w.heap.size < w3.heap.size from blk_lt B4.out)
    clear hbn
    refine start_ (n := 14) (S := fun w' => w'.cell? ⟨w1.heap.size, 0, none⟩ = some (.int .i64 d) ∧ w'.cell? ⟨w1.heap.size, 1, none⟩ = some (.int .i64 0) ∧ w'.cell? ⟨w1.heap.size, 2, none⟩ = some (.int .i64 0) ∧ w'.cell? ⟨w1.heap.size, 3, none⟩ = some (.slice none 0 0) ∧ w'.cell? ⟨w1.heap.size, 4, none⟩ = some (.int .i64 (mm : Int)) ∧ (convert 22 9 (.slice Y r.length cy)).run Try.prog w' = .ok (.string (strOfNums r)) w' ∧ (convert 22 9 (.slice (some ad) 64 c)).run Try.prog w' = .ok (.string (strOfNums l)) w') (ds := []) #[false, false, false, false, false, false, false, false, false, false, false, false, false, false] (by kernel_rfl) rfl rfl ⟨(rec_cells R5.out).1, (rec_cells R5.out).2.1, (rec_cells R5.out).2.2.1, (rec_cells R5.out).2.2.2.1, (rec_cells R5.out).2.2.2.2, Kd.C_string (P := Try.prog) (A := Y) (c := cy) Try.underlying22 Try.underlying5 Try.underlying9 Y5.out.C, Kd.C_string (P := Try.prog) (A := some ad) (c := c) Try.underlying22 Try.underlying5 Try.underlying9 (n64 h64 C5.out)⟩ (fun hHeld => ?_); refine with_tabW rparse_tab11 rparse_bits11 (fun HT_ HW_ => ?_)
    generalize w4.drew = w5 at K5 R5 RB C5 Y5 hHeld ⊢
    refine pure_ (i := 1) (N := some 68) (v := ?_) (a' := ?_) #[false, true, false, false, false, false, false, false, false, false, false, false, false, false] rfl rfl (any_of HT_.out (by kernel_rfl)) (fun _ _ _ h => h) (Or.inl ⟨by rfl, ?_⟩) ?_ ?_
    rotate_left
    · intro w'
      go_simp
      with_reducible rfl
    rotate_left
    · simp only [Act.put, List.setIfInBounds_toArray, List.set_cons_zero, List.set_cons_succ, i64_w, i32_w]
      rfl
    refine pure_ (i := 2) (N := some 69) (v := ?_) (a' := ?_) #[false, true, true, false, false, false, false, false, false, false, false, false, false, false] rfl rfl (any_of HT_.out (by kernel_rfl)) (fun _ _ _ h => h) (Or.inl ⟨by rfl, ?_⟩) ?_ ?_
    rotate_left
    · intro w'
      go_simp
      with_reducible rfl
    rotate_left
    · simp only [Act.put, List.setIfInBounds_toArray, List.set_cons_zero, List.set_cons_succ, i64_w, i32_w]
      rfl
    refine pure_ (i := 3) (N := some 70) (v := ?_) (a' := ?_) #[false, true, true, true, false, false, false, false, false, false, false, false, false, false] rfl rfl (any_of HT_.out (by kernel_rfl)) (fun _ _ _ h => h) (Or.inl ⟨by rfl, ?_⟩) ?_ ?_
    rotate_left
    · intro w'
      go_simp
      with_reducible rfl
    rotate_left
    · simp only [Act.put, List.setIfInBounds_toArray, List.set_cons_zero, List.set_cons_succ, i64_w, i32_w]
      rfl
    refine pure_ (i := 4) (N := some 71) (v := ?_) (a' := ?_) #[false, true, true, true, true, false, false, false, false, false, false, false, false, false] rfl rfl (any_of HT_.out (by kernel_rfl)) (fun _ _ _ h => h) (Or.inl ⟨by rfl, ?_⟩) ?_ ?_
    rotate_left
    · intro w'
      go_simp
      with_reducible rfl
    rotate_left
    · simp only [Act.put, List.setIfInBounds_toArray, List.set_cons_zero, List.set_cons_succ, i64_w, i32_w]
      rfl
    refine pure_ (i := 5) (N := some 72) (v := ?_) (a' := ?_) #[false, true, true, true, true, true, false, false, false, false, false, false, false, false] rfl rfl (any_of HT_.out (by kernel_rfl)) (fun _ _ _ h => h) (Or.inl ⟨by rfl, ?_⟩) ?_ ?_
    rotate_left
    · intro w'
      go_simp
      with_reducible rfl
    rotate_left
    · simp only [Act.put, List.setIfInBounds_toArray, List.set_cons_zero, List.set_cons_succ, i64_w, i32_w]
      rfl
    refine pure_ (i := 7) (N := some 74) (v := ?_) (a' := ?_) #[false, true, true, true, true, true, false, true, false, false, false, false, false, false] rfl rfl (any_of HT_.out (by kernel_rfl)) (fun _ _ _ h => h) (Or.inl ⟨by rfl, ?_⟩) ?_ ?_
    rotate_left
    · intro w'
      go_simp
      with_reducible rfl
    rotate_left
    · simp only [Act.put, List.setIfInBounds_toArray, List.set_cons_zero, List.set_cons_succ, i64_w, i32_w]
      rfl
    refine take_ (i := 0) (N := some 67) (v := ?_) (a' := ?_) #[true, true, true, true, true, true, false, true, false, false, false, false, false, false] rfl rfl (take_ofW HT_.out HW_.out (by kernel_rfl)) (fun _ _ _ h => h) (Or.inl ⟨by rfl, ?_⟩) hHeld ?_ ?_
    rotate_left
    · rintro w' ⟨s0, s1, s2, s3, s4, s5, s6⟩
      go_simp
      with_reducible rfl
    rotate_left
    · simp only [Act.put, List.setIfInBounds_toArray, List.set_cons_zero, List.set_cons_succ, i64_w, i32_w]
      rfl
    refine take_ (i := 6) (N := some 73) (v := ?_) (a' := ?_) #[true, true, true, true, true, true, true, true, false, false, false, false, false, false] rfl rfl (take_ofW HT_.out HW_.out (by kernel_rfl)) (fun _ _ _ h => h) (Or.inl ⟨by rfl, ?_⟩) hHeld ?_ ?_
    rotate_left
    · rintro w' ⟨s0, s1, s2, s3, s4, s5, s6⟩
      go_simp
      with_reducible rfl
    rotate_left
    · simp only [Act.put, List.setIfInBounds_toArray, List.set_cons_zero, List.set_cons_succ, i64_w, i32_w]
      rfl
    refine take_ (i := 8) (N := some 75) (v := ?_) (a' := ?_) #[true, true, true, true, true, true, true, true, true, false, false, false, false, false] rfl rfl (take_ofW HT_.out HW_.out (by kernel_rfl)) (fun _ _ _ h => h) (Or.inl ⟨by rfl, ?_⟩) hHeld ?_ ?_
    rotate_left
    · rintro w' ⟨s0, s1, s2, s3, s4, s5, s6⟩
      go_simp
      with_reducible rfl
    rotate_left
    · simp only [Act.put, List.setIfInBounds_toArray, List.set_cons_zero, List.set_cons_succ, i64_w, i32_w]
      rfl
    refine pure_ (i := 9) (N := some 76) (v := ?_) (a' := ?_) #[true, true, true, true, true, true, true, true, true, true, false, false, false, false] rfl rfl (any_of HT_.out (by kernel_rfl)) (fun _ _ _ h => h) (Or.inl ⟨by rfl, ?_⟩) ?_ ?_
    rotate_left
    · intro w'
      go_simp
      with_reducible rfl
    rotate_left
    · simp only [Act.put, List.setIfInBounds_toArray, List.set_cons_zero, List.set_cons_succ, i64_w, i32_w]
      rfl
    refine pure_ (i := 10) (N := some 77) (v := ?_) (a' := ?_) #[true, true, true, true, true, true, true, true, true, true, true, false, false, false] rfl rfl (any_of HT_.out (by kernel_rfl)) (fun _ _ _ h => h) (Or.inl ⟨by rfl, ?_⟩) ?_ ?_
    rotate_left
    · intro w'
      go_simp
      with_reducible rfl
    rotate_left
    · simp only [Act.put, List.setIfInBounds_toArray, List.set_cons_zero, List.set_cons_succ, i64_w, i32_w]
      rfl
    refine one_ (i := 11) (N := none) #[true, true, true, true, true, true, true, true, true, true, true, true, false, false] rfl rfl (one_of HT_.out (by kernel_rfl)) (by decide) (fun K hK => ?_)
    obtain ⟨t0, t1, t2, t3, t4⟩ := rec_cells RB.out
    have f0 := blk_frozen RB.out 0
    have f1 := blk_frozen RB.out 1
    have f2 := blk_frozen RB.out 2
    have f3 := blk_frozen RB.out 3
    have f4 := blk_frozen RB.out 4
    refine skip_ (w1 := ?_) (by rfl) rfl ?_ ?_
    rotate_left
    · go_simp
      rfl
    have ST := Aside0.mk (set5 RB.out K5.out (Nat.le_refl _) (.int .i64 d) (.int .i64 0) (.int .i64 0) (.slice none 0 0) (.int .i64 (mm : Int)))
    have SO := Aside0.mk (only5 w.heap.size w5 (.int .i64 d) (.int .i64 0) (.int .i64 0) (.slice none 0 0) (.int .i64 (mm : Int)))
    have R6 := Aside0.mk ((SO.out.block w1.heap.size (Ne.symm (Nat.ne_of_lt NE.out))).trans R5.out)
    have Y6 := Aside0.mk (own_kept Y5.out (fun g h1 h2 => SO.out.block g (Ne.symm (Nat.ne_of_lt (Nat.lt_of_lt_of_le NY.out (own_lt Y5.out g h1 h2).1)))))
    have C6 := Aside0.mk (Kd.C_below HC.out ST.out.2)
    refine hK.out _ _ ⟨(rec_cells R6.out).1, (rec_cells R6.out).2.1, (rec_cells R6.out).2.2.1, (rec_cells R6.out).2.2.2.1, (rec_cells R6.out).2.2.2.2, Kd.C_string (P := Try.prog) (A := Y) (c := cy) Try.underlying22 Try.underlying5 Try.underlying9 Y6.out.C, Kd.C_string (P := Try.prog) (A := some ad) (c := c) Try.underlying22 Try.underlying5 Try.underlying9 (n64 h64 C6.out)⟩ ?_
    intro hHeld2
    clear hK K t0 t1 t2 t3 t4 f0 f1 f2 f3 f4
    refine pure_ (i := 12) (N := some 3) (v := ?_) (a' := ?_) #[true, true, true, true, true, true, true, true, true, true, true, true, true, false] rfl rfl (any_of HT_.out (by kernel_rfl)) (fun _ _ _ h => h) (Or.inl ⟨by rfl, ?_⟩) ?_ ?_
    rotate_left
    · intro w'
      go_simp
      with_reducible rfl
    rotate_left
    · simp only [Act.put, List.setIfInBounds_toArray, List.set_cons_zero, List.set_cons_succ, i64_w, i32_w]
      rfl
    refine pure_ (i := 13) (N := some 4) (v := ?_) (a' := ?_) #[true, true, true, true, true, true, true, true, true, true, true, true, true, true] rfl rfl (any_of HT_.out (by kernel_rfl)) (fun _ _ _ h => h) (Or.inl ⟨by rfl, ?_⟩) ?_ ?_
    rotate_left
    · intro w'
      go_simp
      with_reducible rfl
    rotate_left
    · simp only [Act.put, List.setIfInBounds_toArray, List.set_cons_zero, List.set_cons_succ, i64_w, i32_w]
      rfl
    refine done_ (done_of HT_.out (by kernel_rfl)) ?_
    try go_wp2_with fail
    refine bodyPost_ret (results_ctt rfl _ _ w.heap.size 24 #[.int .i64 d, .int .i64 0, .int .i64 0, (.slice none 0 0), .int .i64 (mm : Int)] (0, 0) _ rfl ST.out.1 Try.underlying24 rfl (by kernel_rfl)) rfl ?_
    have hq := str_eq (bytesA_bytes (fun x hx => by cases hx) HR.out) HB.out
    refine ⟨_, _, ?_, own_nil _ _, ST.out.2⟩
    show Ending.returned (.tuple #[.agg #[.int .i64 d, .int .i64 0, .int .i64 0, (.slice none 0 0), .int .i64 (mm : Int)], .int .i64 v, .bool ((strOfNums r).toList == (strOfNums l).toList)]) = _
    rw [hq]
    simp
  have hnb : (n == 0) = false := by simpa using hn0
  go_wp2_with fail
  have hbn := below_drew (Below.refl w4.heap.size w4)
  have K5 := Aside0.mk (K4.out.trans (hbn.mono K4.out.size))
  have R5 := Aside0.mk ((hbn.block _ (blk_lt R4.out)).trans R4.out)
  have RB := Aside0.mk ((hbn.block _ (blk_lt B5.out)).trans B5.out)
  have C5 := Aside0.mk (Kd.C_below C4.out hbn)
  have Y5 := Aside0.mk (own_below Y4.out hbn)
  have NY := Aside0.mk (show w.heap.size < w3.heap.size from blk_lt B4.out)
  clear hbn
  refine start_ (n := 14) (S := fun w' => w'.cell? ⟨w1.heap.size, 0, none⟩ = some (.int .i64 d) ∧ w'.cell? ⟨w1.heap.size, 1, none⟩ = some (.int .i64 0) ∧ w'.cell? ⟨w1.heap.size, 2, none⟩ = some (.int .i64 0) ∧ w'.cell? ⟨w1.heap.size, 3, none⟩ = some (.slice none 0 0) ∧ w'.cell? ⟨w1.heap.size, 4, none⟩ = some (.int .i64 (mm : Int))) (ds := []) #[false, false, false, false, false, false, false, false, false, false, false, false, false, false] (by kernel_rfl) rfl rfl ⟨(rec_cells R5.out).1, (rec_cells R5.out).2.1, (rec_cells R5.out).2.2.1, (rec_cells R5.out).2.2.2.1, (rec_cells R5.out).2.2.2.2⟩ (fun hHeld => ?_); refine with_tabW rparse_tab11 rparse_bits11 (fun HT_ HW_ => ?_)
  generalize w4.drew = w5 at K5 R5 RB C5 Y5 hHeld ⊢
  refine pure_ (i := 1) (N := some 68) (v := ?_) (a' := ?_) #[false, true, false, false, false, false, false, false, false, false, false, false, false, false] rfl rfl (any_of HT_.out (by kernel_rfl)) (fun _ _ _ h => h) (Or.inl ⟨by rfl, ?_⟩) ?_ ?_
  rotate_left
  · intro w'
    go_simp
    with_reducible rfl
  rotate_left
  · simp only [Act.put, List.setIfInBounds_toArray, List.set_cons_zero, List.set_cons_succ, i64_w, i32_w]
    rfl
  refine pure_ (i := 2) (N := some 69) (v := ?_) (a' := ?_) #[false, true, true, false, false, false, false, false, false, false, false, false, false, false] rfl rfl (any_of HT_.out (by kernel_rfl)) (fun _ _ _ h => h) (Or.inl ⟨by rfl, ?_⟩) ?_ ?_
  rotate_left
  · intro w'
    go_simp
    with_reducible rfl
  rotate_left
  · simp only [Act.put, List.setIfInBounds_toArray, List.set_cons_zero, List.set_cons_succ, i64_w, i32_w]
    rfl
  refine pure_ (i := 3) (N := some 70) (v := ?_) (a' := ?_) #[false, true, true, true, false, false, false, false, false, false, false, false, false, false] rfl rfl (any_of HT_.out (by kernel_rfl)) (fun _ _ _ h => h) (Or.inl ⟨by rfl, ?_⟩) ?_ ?_
  rotate_left
  · intro w'
    go_simp
    with_reducible rfl
  rotate_left
  · simp only [Act.put, List.setIfInBounds_toArray, List.set_cons_zero, List.set_cons_succ, i64_w, i32_w]
    rfl
  refine pure_ (i := 4) (N := some 71) (v := ?_) (a' := ?_) #[false, true, true, true, true, false, false, false, false, false, false, false, false, false] rfl rfl (any_of HT_.out (by kernel_rfl)) (fun _ _ _ h => h) (Or.inl ⟨by rfl, ?_⟩) ?_ ?_
  rotate_left
  · intro w'
    go_simp
    with_reducible rfl
  rotate_left
  · simp only [Act.put, List.setIfInBounds_toArray, List.set_cons_zero, List.set_cons_succ, i64_w, i32_w]
    rfl
  refine pure_ (i := 5) (N := some 72) (v := undef) (a' := ?_) #[false, true, true, true, true, true, false, false, false, false, false, false, false, false] rfl rfl (any_of HT_.out (by kernel_rfl)) (fun _ _ _ h => h) (Or.inr ⟨by rfl, rfl⟩) ?_ ?_
  rotate_left
  · simp only [Act.put, List.setIfInBounds_toArray, List.set_cons_zero, List.set_cons_succ, i64_w, i32_w]
    rfl
  refine pure_ (i := 6) (N := some 73) (v := undef) (a' := ?_) #[false, true, true, true, true, true, true, false, false, false, false, false, false, false] rfl rfl (any_of HT_.out (by kernel_rfl)) (fun _ _ _ h => h) (Or.inr ⟨by rfl, rfl⟩) ?_ ?_
  rotate_left
  · simp only [Act.put, List.setIfInBounds_toArray, List.set_cons_zero, List.set_cons_succ, i64_w, i32_w]
    rfl
  refine pure_ (i := 7) (N := some 74) (v := undef) (a' := ?_) #[false, true, true, true, true, true, true, true, false, false, false, false, false, false] rfl rfl (any_of HT_.out (by kernel_rfl)) (fun _ _ _ h => h) (Or.inr ⟨by rfl, rfl⟩) ?_ ?_
  rotate_left
  · simp only [Act.put, List.setIfInBounds_toArray, List.set_cons_zero, List.set_cons_succ, i64_w, i32_w]
    rfl
  refine pure_ (i := 8) (N := some 75) (v := undef) (a' := ?_) #[false, true, true, true, true, true, true, true, true, false, false, false, false, false] rfl rfl (any_of HT_.out (by kernel_rfl)) (fun _ _ _ h => h) (Or.inr ⟨by rfl, rfl⟩) ?_ ?_
  rotate_left
  · simp only [Act.put, List.setIfInBounds_toArray, List.set_cons_zero, List.set_cons_succ, i64_w, i32_w]
    rfl
  refine pure_ (i := 9) (N := some 76) (v := undef) (a' := ?_) #[false, true, true, true, true, true, true, true, true, true, false, false, false, false] rfl rfl (any_of HT_.out (by kernel_rfl)) (fun _ _ _ h => h) (Or.inr ⟨by rfl, rfl⟩) ?_ ?_
  rotate_left
  · simp only [Act.put, List.setIfInBounds_toArray, List.set_cons_zero, List.set_cons_succ, i64_w, i32_w]
    rfl
  refine pure_ (i := 10) (N := some 77) (v := ?_) (a' := ?_) #[false, true, true, true, true, true, true, true, true, true, true, false, false, false] rfl rfl (any_of HT_.out (by kernel_rfl)) (fun _ _ _ h => h) (Or.inl ⟨by rfl, ?_⟩) ?_ ?_
  rotate_left
  · intro w'
    go_simp
    with_reducible rfl
  rotate_left
  · simp only [Act.put, List.setIfInBounds_toArray, List.set_cons_zero, List.set_cons_succ, i64_w, i32_w]
    rfl
  refine take_ (i := 0) (N := some 67) (v := ?_) (a' := ?_) #[true, true, true, true, true, true, true, true, true, true, true, false, false, false] rfl rfl (take_ofW HT_.out HW_.out (by kernel_rfl)) (fun _ _ _ h => h) (Or.inl ⟨by rfl, ?_⟩) hHeld ?_ ?_
  rotate_left
  · rintro w' ⟨s0, s1, s2, s3, s4⟩
    go_simp
    with_reducible rfl
  rotate_left
  · simp only [Act.put, List.setIfInBounds_toArray, List.set_cons_zero, List.set_cons_succ, i64_w, i32_w]
    rfl
  refine one_ (i := 11) (N := none) #[true, true, true, true, true, true, true, true, true, true, true, true, false, false] rfl rfl (one_of HT_.out (by kernel_rfl)) (by decide) (fun K hK => ?_)
  obtain ⟨t0, t1, t2, t3, t4⟩ := rec_cells RB.out
  have f0 := blk_frozen RB.out 0
  have f1 := blk_frozen RB.out 1
  have f2 := blk_frozen RB.out 2
  have f3 := blk_frozen RB.out 3
  have f4 := blk_frozen RB.out 4
  refine skip_ (w1 := ?_) (by rfl) rfl ?_ ?_
  rotate_left
  · go_simp
    rfl
  have ST := Aside0.mk (set5 RB.out K5.out (Nat.le_refl _) (.int .i64 d) (.int .i64 0) (.int .i64 0) (.slice none 0 0) (.int .i64 (mm : Int)))
  have SO := Aside0.mk (only5 w.heap.size w5 (.int .i64 d) (.int .i64 0) (.int .i64 0) (.slice none 0 0) (.int .i64 (mm : Int)))
  have R6 := Aside0.mk ((SO.out.block w1.heap.size (Ne.symm (Nat.ne_of_lt NE.out))).trans R5.out)
  have Y6 := Aside0.mk (own_kept Y5.out (fun g h1 h2 => SO.out.block g (Ne.symm (Nat.ne_of_lt (Nat.lt_of_lt_of_le NY.out (own_lt Y5.out g h1 h2).1)))))
  have C6 := Aside0.mk (Kd.C_below HC.out ST.out.2)
  refine hK.out _ _ ⟨(rec_cells R6.out).1, (rec_cells R6.out).2.1, (rec_cells R6.out).2.2.1, (rec_cells R6.out).2.2.2.1, (rec_cells R6.out).2.2.2.2⟩ ?_
  intro hHeld2
  clear hK K t0 t1 t2 t3 t4 f0 f1 f2 f3 f4
  refine pure_ (i := 12) (N := some 3) (v := ?_) (a' := ?_) #[true, true, true, true, true, true, true, true, true, true, true, true, true, false] rfl rfl (any_of HT_.out (by kernel_rfl)) (fun _ _ _ h => h) (Or.inl ⟨by rfl, ?_⟩) ?_ ?_
  rotate_left
  · intro w'
    go_simp
    with_reducible rfl
  rotate_left
  · simp only [Act.put, List.setIfInBounds_toArray, List.set_cons_zero, List.set_cons_succ, i64_w, i32_w]
    rfl
  refine pure_ (i := 13) (N := some 4) (v := ?_) (a' := ?_) #[true, true, true, true, true, true, true, true, true, true, true, true, true, true] rfl rfl (any_of HT_.out (by kernel_rfl)) (fun _ _ _ h => h) (Or.inl ⟨by rfl, ?_⟩) ?_ ?_
  rotate_left
  · intro w'
    go_simp
    with_reducible rfl
  rotate_left
  · simp only [Act.put, List.setIfInBounds_toArray, List.set_cons_zero, List.set_cons_succ, i64_w, i32_w]
    rfl
  refine done_ (done_of HT_.out (by kernel_rfl)) ?_
  try go_wp2_with fail
  refine bodyPost_ret (results_ctt rfl _ _ w.heap.size 24 #[.int .i64 d, .int .i64 0, .int .i64 0, (.slice none 0 0), .int .i64 (mm : Int)] (0, 0) _ rfl ST.out.1 Try.underlying24 rfl (by kernel_rfl)) rfl ?_
  refine ⟨_, _, ?_, own_nil _ _, ST.out.2⟩
  show Ending.returned (.tuple #[.agg #[.int .i64 d, .int .i64 0, .int .i64 0, (.slice none 0 0), .int .i64 (mm : Int)], .int .i64 v, .bool false]) = _
  rw [decide_eq_false (fun e => hn0 e.1)]
end
end Go.Proofs.Ytglgndeoldgjbaa.Pure
