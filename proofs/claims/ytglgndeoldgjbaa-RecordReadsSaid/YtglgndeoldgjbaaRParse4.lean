/- The document's reading of a sector: its walk. -/
import Derived.Test.YtglgndeoldgjbaaRParse3
import Derived.Deep.RegionHeld3
namespace Go.Proofs.Ytglgndeoldgjbaa.Pure
open Go.RowKit Go.Proofs.Ytglgndeoldgjbaa Go.Proofs.Ytglgndeoldgjbaa.PTwo Go.Proofs.Ytglgndeoldgjbaa.Mem Go.Proofs.YtglgndeoldgjbaaW.PrintWords Go.Proofs.YtglgndeoldgjbaaW.PrintLast Go.Proofs.YtglgndeoldgjbaaW.PrintMore
attribute [local go_sem] max2_int min2_int max_two min_two
set_option linter.unusedVariables false
set_option linter.unusedSimpArgs false
set_option linter.unusedSectionVars false

theorem le_16 {l : List Int} {n1 : Nat} (h : l.length = 64) (h2 : n1 ≤ 44) : 16 + n1 ≤ l.length := by omega
theorem le_al {n1 : Nat} (h2 : n1 ≤ 44) : (([] : List Int).length + (16 + n1 - 16)) * 1 ≤ 140737488355328 := by simp; omega
theorem w_nat (n : Nat) (h : n ≤ 2305843009213693952) : wrap64 (n : Int) = (n : Int) := w64id (by omega) (by omega)
theorem w_16 (n : Nat) (h : n ≤ 44) : wrap64 (16 + (n : Int)) = ((16 + n : Nat) : Int) := w64id (by omega) (by omega)
theorem part_C' {w : World} {ad : Addr} {l : List Int} (h : Kd.C (Kd.int .u8) w (some ad) l.length l) {fr n : Nat} (hf : 0 < fr) (hl : fr + n ≤ l.length) : Kd.C (Kd.int .u8) w (some ⟨ad.block, ad.off + fr, none⟩) n ((l.take (fr + n)).drop fr) := by
  rcases Nat.eq_zero_or_pos n with h0 | hp
  · subst h0
    rw [show (l.take (fr + 0)).drop fr = [] from List.drop_of_length_le (by rw [List.length_take]; omega)]
    exact ⟨rfl, by decide, fun h => absurd h (by decide)⟩
  · have := part_C h hf hp hl
    rwa [List.drop_take, show fr + n - fr = n by omega]
theorem own_lower {w : World} {b b0 : Nat} {A : Option Addr} {c : Nat} {l : List Int} (h : Own w b A c l) (hb : b0 ≤ b) : Own w b0 A c l := ⟨h.cap, h.C, fun hp => by
  obtain ⟨g, cur, h1, h2, h3⟩ := h.blk hp
  exact ⟨g, cur, h1, Nat.le_trans hb h2, h3⟩⟩
theorem drop_len {n1 : Nat} {l : List Int} (h : 16 + n1 ≤ l.length) : ((l.take (16 + n1)).drop 16).length = n1 := by rw [List.length_drop, List.length_take]; omega
section
variable {w : World} {A : Option Addr} {c : Nat} {l : List Int} (hC : Kd.C (Kd.int .u8) w A l.length l) (hc : l.length ≤ c) (hb : Bytes l) (hl : l.length ≤ 140737488351232)
include hC hc hb hl
set_option maxRecDepth 100000 in
set_option maxHeartbeats 4000000 in
theorem rparse_one (h64 : l.length = 64) (n1 : Nat) (h1 : rd l 1 = n1) (h44 : n1 ≤ 44) (v : Nat) (hv : getL l 2 8 = v) (hsm : v ≤ 2305843009213693952) (hd : rd l 0 = 1) (bk : Nat) (hmm : getL l 10 4 = bk) (o : Int) (ho : rd l 14 = o) (dt : List Int) (hdt : (l.take (16 + n1)).drop 16 = dt) (r : List Int) (n : Int) (hr : bytesA (v : Int) 1 (bk : Int) o dt 0 = (r, n)) : Calls Try.prog 29 #[.slice A l.length c] w fun e w' => ∃ B k, e = .returned (.tuple #[.agg #[.int .i64 1, .int .i64 (bk : Int), .int .i64 o, .slice B dt.length k, .int .i64 0], .int .i64 (v : Int), .bool (decide (n = 0 ∧ r = l))]) ∧ Own w' w.heap.size B k dt ∧ Below w.heap.size w w' := by
  have hu24 := Try.underlying24
  have hlI : (l.length : Int) ≤ 140737488351232 := by omega
  have hgd : decide (((l.length : Nat) : Int) = 64) = true := decide_eq_true (by omega)
  have hgd2 : decide (l.length = 64) = true := decide_eq_true h64
  have hg1 : decide ((n1 : Int) > 44) = false := decide_eq_false (by omega)
  have hg2 : decide (44 < n1) = false := decide_eq_false (by omega)
  have hv1 : decide ((v : Int) > 2305843009213693952) = false := decide_eq_false (by omega)
  have hv2 : decide (2305843009213693952 < v) = false := decide_eq_false (by omega)
  have HC := Aside0.mk hC
  have HL := Aside0.mk hlI
  have HO1 := Aside0.mk ho
  have HN1 := Aside0.mk h1
  have HDT := Aside0.mk hdt
  have DTL := Aside0.mk (show dt.length = n1 by rw [← hdt, List.length_drop, List.length_take]; omega)
  have DTB := Aside0.mk (show Bytes dt from fun x hx => by rw [← hdt] at hx; exact hb x (List.mem_of_mem_take (List.mem_of_mem_drop hx)))
  have HB := Aside0.mk hb
  have HV := Aside0.mk hv
  have K0 := Aside0.mk (Below.refl w.heap.size w)
  obtain ⟨ad, rfl, hx⟩ := Kd.at_int (Kd.C_alloc hC (.cells #[.int .i64 0, .int .i64 0, .int .i64 0, .slice none 0 0, .int .i64 0] 24)) 1 (by decide) (by omega)
  simp only [show (1 : Int).toNat = 1 from rfl, Nat.reduceMul, Nat.reduceEqDiff, Go.Addr.add, ↓reduceIte] at hx
  rw [h1] at hx
  clear hC hb hl
  go_enter Try.func29, Try.ntmps29
  go_wp2_with fail
  refine (part_num (Kd.C_alloc HC.out _) HB.out (fr := 2) (n := 8) (by decide) (by decide) (by decide) (by omega) hc HV.out).mono ?_
  rintro e w1 ⟨rfl, hb1⟩
  have hK1 := ((Below.refl w.heap.size w).alloc (Nat.le_refl _) (.cells #[.int .i64 0, .int .i64 0, .int .i64 0, .slice none 0 0, .int .i64 0] 24)).trans (hb1.mono (by simp))
  have B1 := Aside0.mk ((hb1.block _ (by simp)).trans (heap_new w (.cells #[.int .i64 0, .int .i64 0, .int .i64 0, .slice none 0 0, .int .i64 0] 24)))
  have K1 := Aside0.mk hK1
  have C1 := Aside0.mk (Kd.C_below (Kd.C_alloc HC.out (.cells #[.int .i64 0, .int .i64 0, .int .i64 0, .slice none 0 0, .int .i64 0] 24)) hb1)
  obtain ⟨ad0, e0, hx0⟩ := Kd.at_int C1.out 0 (by decide) (by omega)
  cases e0
  simp only [show (0 : Int).toNat = 0 from rfl, Addr.add_zero'] at hx0
  rw [hd] at hx0
  have hmb : bk < 4294967296 := by
    rw [← hmm]
    exact getL_lt l 10 4 HB.out (by omega)
  have HM := Aside0.mk hmm
  have hw1 : wrap64 1 = 1 := w64id (by omega) (by omega)
  clear hb1 hK1
  go_wp2_with fail
  refine (part_num (Kd.C_alloc C1.out _) HB.out (fr := 10) (n := 4) (by decide) (by decide) (by decide) (by omega) hc HM.out).mono ?_
  rintro e w2 ⟨rfl, hb2⟩
  have C2 := Aside0.mk (Kd.C_below (Kd.C_alloc C1.out (.cells #[.int .i64 1, .int .i64 0, .int .i64 0, .slice none 0 0, .int .i64 0] 24)) hb2)
  have K2 := Aside0.mk ((K1.out.alloc K1.out.size (.cells #[.int .i64 1, .int .i64 0, .int .i64 0, .slice none 0 0, .int .i64 0] 24)).trans (hb2.mono (Nat.le_trans K1.out.size (by simp))))
  have R2 := Aside0.mk ((hb2.block _ (by simp)).trans (heap_new w1 (.cells #[.int .i64 1, .int .i64 0, .int .i64 0, .slice none 0 0, .int .i64 0] 24)))
  have B2 := Aside0.mk ((hb2.block w.heap.size (by have := blk_lt B1.out; simp; omega)).trans ((Below.heap_alloc w1 _ w.heap.size (by have := blk_lt B1.out; omega)).trans B1.out))
  have NE := Aside0.mk (show w.heap.size < w1.heap.size from blk_lt B1.out)
  clear hb2
  obtain ⟨z0, z1, z2, z3, z4⟩ := rec_cells R2.out
  have y1 := blk_frozen R2.out 1
  have y2 := blk_frozen R2.out 2
  have y3 := blk_frozen R2.out 3
  clear z0 z4 hx hx0 hgd hgd2 hg1 hg2 hv1 hv2 hw1
  obtain ⟨ad1, e1, hx14⟩ := Kd.at_int C2.out 14 (by decide) (by omega)
  cases e1
  obtain ⟨ad1, e1, hx1⟩ := Kd.at_int C2.out 1 (by decide) (by omega)
  cases e1
  simp only [show (14 : Int).toNat = 14 from rfl, show (1 : Int).toNat = 1 from rfl, Nat.reduceMul, Nat.reduceEqDiff, Go.Addr.add, ↓reduceIte] at hx1 hx14
  have hadB : ad.block < w1.heap.size := by
    have h0 := Kd.at_int C1.out 0 (by decide) (by omega)
    obtain ⟨ad1, e1, h0⟩ := h0
    cases e1
    simp only [show (0 : Int).toNat = 0 from rfl, Addr.add_zero'] at h0
    exact World.block_lt_of_cell? w1 _ h0
  have hadn : ad.block ≠ w1.heap.size := by omega
  have hadm : w1.heap.size ≠ ad.block := by omega
  rw [HN1.out] at hx1
  rw [HO1.out] at hx14
  have hob := rd_byte HB.out (show 14 < l.length by omega)
  change 0 ≤ rd l 14 ∧ rd l 14 < 256 at hob
  rw [ho] at hob
  have WO := Aside0.mk (show wrap64 o = o from w64id (by omega) (by omega))
  have X14 := Aside0.mk hx14
  have X1 := Aside0.mk hx1
  clear hx14 hx1 hob
  have hwb := w_nat bk (Nat.le_trans (Nat.le_of_lt hmb) (by decide))
  have HR := Aside0.mk hr
  clear hr hmm hv hd ho hdt h1
  have KS := Aside0.mk ((K2.out.setCell (p := ⟨w1.heap.size, 1, none⟩) (Nat.le_of_lt NE.out) (.int .i64 (bk : Int))).setCell (p := ⟨w1.heap.size, 2, none⟩) (Nat.le_of_lt NE.out) (.int .i64 o))
  have CS := Aside0.mk (Kd.C_below HC.out KS.out)
  have APC := Aside0.mk (show Kd.C (Kd.int .u8) (((w2.setCell ⟨w1.heap.size, 1, none⟩ (.int .i64 (bk : Int))).setCell ⟨w1.heap.size, 2, none⟩ (.int .i64 o))) (some ⟨ad.block, ad.off + 16, none⟩) n1 dt from by rw [← HDT.out]; exact part_C' CS.out (by decide) (le_16 h64 h44))
  have RS := Aside0.mk (show (((w2.setCell ⟨w1.heap.size, 1, none⟩ (.int .i64 (bk : Int))).setCell ⟨w1.heap.size, 2, none⟩ (.int .i64 o))).heap[w1.heap.size]? = some (.cells #[.int .i64 1, .int .i64 bk, .int .i64 o, .slice none 0 0, .int .i64 0] 24 (0, 0)) from by rw [blk_set (blk_set R2.out 1 _) 2 _]; simp)
  have BS := Aside0.mk ((Below.heap_setCell _ ⟨w1.heap.size, 2, none⟩ (.int .i64 o) w.heap.size (Nat.ne_of_lt NE.out)).trans ((Below.heap_setCell w2 ⟨w1.heap.size, 1, none⟩ (.int .i64 (bk : Int)) w.heap.size (Nat.ne_of_lt NE.out)).trans B2.out))
  have SB := Aside0.mk (Below.refl (((w2.setCell ⟨w1.heap.size, 1, none⟩ (.int .i64 (bk : Int))).setCell ⟨w1.heap.size, 2, none⟩ (.int .i64 o))).heap.size (((w2.setCell ⟨w1.heap.size, 1, none⟩ (.int .i64 (bk : Int))).setCell ⟨w1.heap.size, 2, none⟩ (.int .i64 o))))
  have SZ := Aside0.mk (show w1.heap.size < (((w2.setCell ⟨w1.heap.size, 1, none⟩ (.int .i64 (bk : Int))).setCell ⟨w1.heap.size, 2, none⟩ (.int .i64 o))).heap.size from blk_lt RS.out)
  have HAN := Aside0.mk hadn
  have HAM := Aside0.mk hadm
  clear y3 z3 hadB hmb hadn hadm
  go_upto_region 6 with fail
  have hwo := WO.out
  have hx14 := X14.out
  have hadn := HAN.out
  have hadm := HAM.out
  clear hwb z1 y1
  go_upto_region 7 with fail
  clear hx14 hwo z2 y2
  have hx1 := X1.out
  have hwn := w_nat n1 (Nat.le_trans h44 (by decide))
  have hwn16 := w_16 n1 h44
  go_wp2_with (first | (at_builtin; go_loud (refine Kd.R_append_rows (Kd.int .u8) (w0 := ((w2.setCell ⟨w1.heap.size, 1, none⟩ (.int .i64 (bk : Int))).setCell ⟨w1.heap.size, 2, none⟩ (.int .i64 o))) (((w2.setCell ⟨w1.heap.size, 1, none⟩ (.int .i64 (bk : Int))).setCell ⟨w1.heap.size, 2, none⟩ (.int .i64 o))).heap.size rfl (.const (.slice none 0 0)) (.tmp 49) 22 5 (.int .u8 0) 1 rfl Try.underlying22 PRef.info5 rfl (by decide) (by decide) (.slice none 0 0) ([] : List Int) dt _ _ _ (fun _ => True) (fun _ => False) rfl rfl ?aO ?aR (fun _ _ h => h) (fun _ h => h.elim) ?aF ?aB ?aS ?aL ?_); (case aO => exact Kd.R_nil _ _ _ _ (fun _ => True)); (case aR => first | exact APC.out | (rw [Nat.add_sub_cancel_left]; exact APC.out) | (rw [Nat.add_sub_cancel]; exact APC.out) | go_loud (refine n1_of ?_)); (case aF => exact (fun _ _ => trivial)); (case aB => exact SB.out); (case aS => exact Nat.le_refl _); (case aL => exact le_al h44); intro v1 wa ho hb3 hg hat; rw [List.nil_append] at ho; obtain ⟨Ad, cd, hv1, hD⟩ := own_of ho; subst hv1; have KA := Aside0.mk (KS.out.trans (hb3.mono KS.out.size)); have RA := Aside0.mk ((hb3.block _ (blk_lt RS.out)).trans RS.out); have BA := Aside0.mk ((hb3.block _ (blk_lt BS.out)).trans BS.out); have DA := Aside0.mk hD; clear ho hb3 hg hat hD hx1 hwn hwn16; obtain ⟨z0, z1, z2, z3, z4⟩ := rec_cells RA.out; have y3 := blk_frozen RA.out 3; clear z0 z1 z2 z4))
  have KT := Aside0.mk (KA.out.setCell (p := ⟨w1.heap.size, 3, none⟩) (Nat.le_of_lt NE.out) (.slice Ad dt.length cd))
  have RT := Aside0.mk (show (wa.setCell ⟨w1.heap.size, 3, none⟩ (.slice Ad dt.length cd)).heap[w1.heap.size]? = some (.cells #[.int .i64 1, .int .i64 bk, .int .i64 o, .slice Ad dt.length cd, .int .i64 0] 24 (0, 0)) from by rw [blk_set RA.out 3 _]; simp)
  have BT := Aside0.mk ((Below.heap_setCell wa ⟨w1.heap.size, 3, none⟩ (.slice Ad dt.length cd) w.heap.size (Nat.ne_of_lt NE.out)).trans BA.out)
  have DT := Aside0.mk (own_kept (w1 := wa.setCell ⟨w1.heap.size, 3, none⟩ (.slice Ad dt.length cd)) DA.out (fun g h1 h2 => Below.heap_setCell wa ⟨w1.heap.size, 3, none⟩ _ g (Ne.symm (Nat.ne_of_lt (Nat.lt_of_lt_of_le SZ.out (own_lt DA.out g h1 h2).1)))))
  have CT := Aside0.mk (Kd.C_below HC.out KT.out)
  refine (part_num CT.out HB.out (fr := 2) (n := 8) (by decide) (by decide) (by decide) (by omega) hc HV.out).mono ?_
  rintro e w3 ⟨rfl, hb3⟩
  have K3 := Aside0.mk (KT.out.trans (hb3.mono KT.out.size))
  have R3 := Aside0.mk ((hb3.block _ (blk_lt RT.out)).trans RT.out)
  have B4 := Aside0.mk ((hb3.block _ (blk_lt BT.out)).trans BT.out)
  have D3 := Aside0.mk (own_below DT.out hb3)
  clear hb3 z3 y3 hadn hadm
  obtain ⟨z0, z1, z2, z3, z4⟩ := rec_cells R3.out
  have hwv : wrap64 (v : Int) = (v : Int) := w64id (by omega) (by omega)
  go_wp2_with fail
  refine (rbytes_c (A := Ad) (c := cd) (l := dt) 1 (bk : Int) o 0 (v : Int) D3.out.C D3.out.cap DTB.out (by have := DTL.out; omega) HR.out).mono ?_
  rintro e w4 ⟨Y, cy, rfl, hY, hb4⟩
  have K4 := Aside0.mk (K3.out.trans (hb4.mono K3.out.size))
  have R4 := Aside0.mk ((hb4.block _ (blk_lt R3.out)).trans R3.out)
  have B5 := Aside0.mk ((hb4.block _ (blk_lt B4.out)).trans B4.out)
  have C4 := Aside0.mk (Kd.C_below HC.out K4.out)
  have D4 := Aside0.mk (own_below D3.out hb4)
  have Y4 := Aside0.mk hY
  have ND := Aside0.mk (show w.heap.size < (((w2.setCell ⟨w1.heap.size, 1, none⟩ (.int .i64 (bk : Int))).setCell ⟨w1.heap.size, 2, none⟩ (.int .i64 o))).heap.size from Nat.lt_trans NE.out SZ.out)
  clear hb4 hY z0 z1 z2 z3 z4
  obtain ⟨z0, z1, z2, z3, z4⟩ := rec_cells R4.out
  by_cases hn0 : n = 0
  case pos =>
    subst hn0
    go_wp2_with fail
    have hbn := below_drew (Below.refl w4.heap.size w4)
    have K5 := Aside0.mk (K4.out.trans (hbn.mono K4.out.size))
    have R5 := Aside0.mk ((hbn.block _ (blk_lt R4.out)).trans R4.out)
    have RB := Aside0.mk ((hbn.block _ (blk_lt B5.out)).trans B5.out)
    have C5 := Aside0.mk (Kd.C_below C4.out hbn)
    have Y5 := Aside0.mk (own_below Y4.out hbn)
    have NY := Aside0.mk (show w.heap.size < w3.heap.size from blk_lt B4.out)
    have D5 := Aside0.mk (own_below D4.out hbn)
    clear hbn
    refine start_ (n := 14) (S := fun w' => w'.cell? ⟨w1.heap.size, 0, none⟩ = some (.int .i64 1) ∧ w'.cell? ⟨w1.heap.size, 1, none⟩ = some (.int .i64 (bk : Int)) ∧ w'.cell? ⟨w1.heap.size, 2, none⟩ = some (.int .i64 o) ∧ w'.cell? ⟨w1.heap.size, 3, none⟩ = some (.slice Ad dt.length cd) ∧ w'.cell? ⟨w1.heap.size, 4, none⟩ = some (.int .i64 0) ∧ (convert 22 9 (.slice Y r.length cy)).run Try.prog w' = .ok (.string (strOfNums r)) w' ∧ (convert 22 9 (.slice (some ad) 64 c)).run Try.prog w' = .ok (.string (strOfNums l)) w') (ds := []) #[false, false, false, false, false, false, false, false, false, false, false, false, false, false] (by kernel_rfl) rfl rfl ⟨(rec_cells R5.out).1, (rec_cells R5.out).2.1, (rec_cells R5.out).2.2.1, (rec_cells R5.out).2.2.2.1, (rec_cells R5.out).2.2.2.2, Kd.C_string (P := Try.prog) (A := Y) (c := cy) Try.underlying22 Try.underlying5 Try.underlying9 Y5.out.C, Kd.C_string (P := Try.prog) (A := some ad) (c := c) Try.underlying22 Try.underlying5 Try.underlying9 (n64 h64 C5.out)⟩ (fun hHeld => ?_); refine with_tabW rparse_tab11 rparse_bits11 (fun HT_ HW_ => ?_)
    generalize w4.drew = w5 at K5 R5 RB C5 Y5 D5 hHeld ⊢
    refine pure_ (i := 1) (N := some 68) (v := ?_) (a' := ?_) #[false, true, false, false, false, false, false, false, false, false, false, false, false, false] rfl rfl (any_of HT_.out (by kernel_rfl)) (fun _ _ _ h => h) (Or.inl ⟨by rfl, ?_⟩) ?_ ?_
    rotate_left
    · intro w'
      go_simp
      with_reducible rfl
    rotate_left
    · simp only [Act.put, List.setIfInBounds_toArray, List.set_cons_zero, List.set_cons_succ, i64_w, i32_w]
      rfl
    refine pure_ (i := 2) (N := some 69) (v := ?_) (a' := ?_) #[false, true, true, false, false, false, false, false, false, false, false, false, false, false] rfl rfl (any_of HT_.out (by kernel_rfl)) (fun _ _ _ h => h) (Or.inl ⟨by rfl, ?_⟩) ?_ ?_
    rotate_left
    · intro w'
      go_simp
      with_reducible rfl
    rotate_left
    · simp only [Act.put, List.setIfInBounds_toArray, List.set_cons_zero, List.set_cons_succ, i64_w, i32_w]
      rfl
    refine pure_ (i := 3) (N := some 70) (v := ?_) (a' := ?_) #[false, true, true, true, false, false, false, false, false, false, false, false, false, false] rfl rfl (any_of HT_.out (by kernel_rfl)) (fun _ _ _ h => h) (Or.inl ⟨by rfl, ?_⟩) ?_ ?_
    rotate_left
    · intro w'
      go_simp
      with_reducible rfl
    rotate_left
    · simp only [Act.put, List.setIfInBounds_toArray, List.set_cons_zero, List.set_cons_succ, i64_w, i32_w]
      rfl
    refine pure_ (i := 4) (N := some 71) (v := ?_) (a' := ?_) #[false, true, true, true, true, false, false, false, false, false, false, false, false, false] rfl rfl (any_of HT_.out (by kernel_rfl)) (fun _ _ _ h => h) (Or.inl ⟨by rfl, ?_⟩) ?_ ?_
    rotate_left
    · intro w'
      go_simp
      with_reducible rfl
    rotate_left
    · simp only [Act.put, List.setIfInBounds_toArray, List.set_cons_zero, List.set_cons_succ, i64_w, i32_w]
      rfl
    refine pure_ (i := 5) (N := some 72) (v := ?_) (a' := ?_) #[false, true, true, true, true, true, false, false, false, false, false, false, false, false] rfl rfl (any_of HT_.out (by kernel_rfl)) (fun _ _ _ h => h) (Or.inl ⟨by rfl, ?_⟩) ?_ ?_
    rotate_left
    · intro w'
      go_simp
      with_reducible rfl
    rotate_left
    · simp only [Act.put, List.setIfInBounds_toArray, List.set_cons_zero, List.set_cons_succ, i64_w, i32_w]
      rfl
    refine pure_ (i := 7) (N := some 74) (v := ?_) (a' := ?_) #[false, true, true, true, true, true, false, true, false, false, false, false, false, false] rfl rfl (any_of HT_.out (by kernel_rfl)) (fun _ _ _ h => h) (Or.inl ⟨by rfl, ?_⟩) ?_ ?_
    rotate_left
    · intro w'
      go_simp
      with_reducible rfl
    rotate_left
    · simp only [Act.put, List.setIfInBounds_toArray, List.set_cons_zero, List.set_cons_succ, i64_w, i32_w]
      rfl
    refine take_ (i := 0) (N := some 67) (v := ?_) (a' := ?_) #[true, true, true, true, true, true, false, true, false, false, false, false, false, false] rfl rfl (take_ofW HT_.out HW_.out (by kernel_rfl)) (fun _ _ _ h => h) (Or.inl ⟨by rfl, ?_⟩) hHeld ?_ ?_
    rotate_left
    · rintro w' ⟨s0, s1, s2, s3, s4, s5, s6⟩
      go_simp
      with_reducible rfl
    rotate_left
    · simp only [Act.put, List.setIfInBounds_toArray, List.set_cons_zero, List.set_cons_succ, i64_w, i32_w]
      rfl
    refine take_ (i := 6) (N := some 73) (v := ?_) (a' := ?_) #[true, true, true, true, true, true, true, true, false, false, false, false, false, false] rfl rfl (take_ofW HT_.out HW_.out (by kernel_rfl)) (fun _ _ _ h => h) (Or.inl ⟨by rfl, ?_⟩) hHeld ?_ ?_
    rotate_left
    · rintro w' ⟨s0, s1, s2, s3, s4, s5, s6⟩
      go_simp
      with_reducible rfl
    rotate_left
    · simp only [Act.put, List.setIfInBounds_toArray, List.set_cons_zero, List.set_cons_succ, i64_w, i32_w]
      rfl
    refine take_ (i := 8) (N := some 75) (v := ?_) (a' := ?_) #[true, true, true, true, true, true, true, true, true, false, false, false, false, false] rfl rfl (take_ofW HT_.out HW_.out (by kernel_rfl)) (fun _ _ _ h => h) (Or.inl ⟨by rfl, ?_⟩) hHeld ?_ ?_
    rotate_left
    · rintro w' ⟨s0, s1, s2, s3, s4, s5, s6⟩
      go_simp
      with_reducible rfl
    rotate_left
    · simp only [Act.put, List.setIfInBounds_toArray, List.set_cons_zero, List.set_cons_succ, i64_w, i32_w]
      rfl
    refine pure_ (i := 9) (N := some 76) (v := ?_) (a' := ?_) #[true, true, true, true, true, true, true, true, true, true, false, false, false, false] rfl rfl (any_of HT_.out (by kernel_rfl)) (fun _ _ _ h => h) (Or.inl ⟨by rfl, ?_⟩) ?_ ?_
    rotate_left
    · intro w'
      go_simp
      with_reducible rfl
    rotate_left
    · simp only [Act.put, List.setIfInBounds_toArray, List.set_cons_zero, List.set_cons_succ, i64_w, i32_w]
      rfl
    refine pure_ (i := 10) (N := some 77) (v := ?_) (a' := ?_) #[true, true, true, true, true, true, true, true, true, true, true, false, false, false] rfl rfl (any_of HT_.out (by kernel_rfl)) (fun _ _ _ h => h) (Or.inl ⟨by rfl, ?_⟩) ?_ ?_
    rotate_left
    · intro w'
      go_simp
      with_reducible rfl
    rotate_left
    · simp only [Act.put, List.setIfInBounds_toArray, List.set_cons_zero, List.set_cons_succ, i64_w, i32_w]
      rfl
    refine one_ (i := 11) (N := none) #[true, true, true, true, true, true, true, true, true, true, true, true, false, false] rfl rfl (one_of HT_.out (by kernel_rfl)) (by decide) (fun K hK => ?_)
    obtain ⟨t0, t1, t2, t3, t4⟩ := rec_cells RB.out
    have f0 := blk_frozen RB.out 0
    have f1 := blk_frozen RB.out 1
    have f2 := blk_frozen RB.out 2
    have f3 := blk_frozen RB.out 3
    have f4 := blk_frozen RB.out 4
    refine skip_ (w1 := ?_) (by rfl) rfl ?_ ?_
    rotate_left
    · go_simp
      rfl
    have ST := Aside0.mk (set5 RB.out K5.out (Nat.le_refl _) (.int .i64 1) (.int .i64 (bk : Int)) (.int .i64 o) (.slice Ad dt.length cd) (.int .i64 0))
    have SO := Aside0.mk (only5 w.heap.size w5 (.int .i64 1) (.int .i64 (bk : Int)) (.int .i64 o) (.slice Ad dt.length cd) (.int .i64 0))
    have R6 := Aside0.mk ((SO.out.block w1.heap.size (Ne.symm (Nat.ne_of_lt NE.out))).trans R5.out)
    have Y6 := Aside0.mk (own_kept Y5.out (fun g h1 h2 => SO.out.block g (Ne.symm (Nat.ne_of_lt (Nat.lt_of_lt_of_le NY.out (own_lt Y5.out g h1 h2).1)))))
    have C6 := Aside0.mk (Kd.C_below HC.out ST.out.2)
    have D6 := Aside0.mk (own_kept D5.out (fun g h1 h2 => SO.out.block g (Ne.symm (Nat.ne_of_lt (Nat.lt_of_lt_of_le ND.out (own_lt D5.out g h1 h2).1)))))
    refine hK.out _ _ ⟨(rec_cells R6.out).1, (rec_cells R6.out).2.1, (rec_cells R6.out).2.2.1, (rec_cells R6.out).2.2.2.1, (rec_cells R6.out).2.2.2.2, Kd.C_string (P := Try.prog) (A := Y) (c := cy) Try.underlying22 Try.underlying5 Try.underlying9 Y6.out.C, Kd.C_string (P := Try.prog) (A := some ad) (c := c) Try.underlying22 Try.underlying5 Try.underlying9 (n64 h64 C6.out)⟩ ?_
    intro hHeld2
    clear hK K t0 t1 t2 t3 t4 f0 f1 f2 f3 f4
    refine pure_ (i := 12) (N := some 3) (v := ?_) (a' := ?_) #[true, true, true, true, true, true, true, true, true, true, true, true, true, false] rfl rfl (any_of HT_.out (by kernel_rfl)) (fun _ _ _ h => h) (Or.inl ⟨by rfl, ?_⟩) ?_ ?_
    rotate_left
    · intro w'
      go_simp
      with_reducible rfl
    rotate_left
    · simp only [Act.put, List.setIfInBounds_toArray, List.set_cons_zero, List.set_cons_succ, i64_w, i32_w]
      rfl
    refine pure_ (i := 13) (N := some 4) (v := ?_) (a' := ?_) #[true, true, true, true, true, true, true, true, true, true, true, true, true, true] rfl rfl (any_of HT_.out (by kernel_rfl)) (fun _ _ _ h => h) (Or.inl ⟨by rfl, ?_⟩) ?_ ?_
    rotate_left
    · intro w'
      go_simp
      with_reducible rfl
    rotate_left
    · simp only [Act.put, List.setIfInBounds_toArray, List.set_cons_zero, List.set_cons_succ, i64_w, i32_w]
      rfl
    refine done_ (done_of HT_.out (by kernel_rfl)) ?_
    try go_wp2_with fail
    refine bodyPost_ret (results_ctt rfl _ _ w.heap.size 24 #[.int .i64 1, .int .i64 (bk : Int), .int .i64 o, (.slice Ad dt.length cd), .int .i64 0] (0, 0) _ rfl ST.out.1 Try.underlying24 rfl (by kernel_rfl)) rfl ?_
    have hq := str_eq (bytesA_bytes (DTB.out) HR.out) HB.out
    refine ⟨_, _, ?_, own_lower D6.out (Nat.le_of_lt ND.out), ST.out.2⟩
    show Ending.returned (.tuple #[.agg #[.int .i64 1, .int .i64 (bk : Int), .int .i64 o, (.slice Ad dt.length cd), .int .i64 0], .int .i64 v, .bool ((strOfNums r).toList == (strOfNums l).toList)]) = _
    rw [hq]
    simp
  have hnb : (n == 0) = false := by simpa using hn0
  go_wp2_with fail
  have hbn := below_drew (Below.refl w4.heap.size w4)
  have K5 := Aside0.mk (K4.out.trans (hbn.mono K4.out.size))
  have R5 := Aside0.mk ((hbn.block _ (blk_lt R4.out)).trans R4.out)
  have RB := Aside0.mk ((hbn.block _ (blk_lt B5.out)).trans B5.out)
  have C5 := Aside0.mk (Kd.C_below C4.out hbn)
  have Y5 := Aside0.mk (own_below Y4.out hbn)
  have NY := Aside0.mk (show w.heap.size < w3.heap.size from blk_lt B4.out)
  have D5 := Aside0.mk (own_below D4.out hbn)
  clear hbn
  refine start_ (n := 14) (S := fun w' => w'.cell? ⟨w1.heap.size, 0, none⟩ = some (.int .i64 1) ∧ w'.cell? ⟨w1.heap.size, 1, none⟩ = some (.int .i64 (bk : Int)) ∧ w'.cell? ⟨w1.heap.size, 2, none⟩ = some (.int .i64 o) ∧ w'.cell? ⟨w1.heap.size, 3, none⟩ = some (.slice Ad dt.length cd) ∧ w'.cell? ⟨w1.heap.size, 4, none⟩ = some (.int .i64 0)) (ds := []) #[false, false, false, false, false, false, false, false, false, false, false, false, false, false] (by kernel_rfl) rfl rfl ⟨(rec_cells R5.out).1, (rec_cells R5.out).2.1, (rec_cells R5.out).2.2.1, (rec_cells R5.out).2.2.2.1, (rec_cells R5.out).2.2.2.2⟩ (fun hHeld => ?_); refine with_tabW rparse_tab11 rparse_bits11 (fun HT_ HW_ => ?_)
  generalize w4.drew = w5 at K5 R5 RB C5 Y5 D5 hHeld ⊢
  refine pure_ (i := 1) (N := some 68) (v := ?_) (a' := ?_) #[false, true, false, false, false, false, false, false, false, false, false, false, false, false] rfl rfl (any_of HT_.out (by kernel_rfl)) (fun _ _ _ h => h) (Or.inl ⟨by rfl, ?_⟩) ?_ ?_
  rotate_left
  · intro w'
    go_simp
    with_reducible rfl
  rotate_left
  · simp only [Act.put, List.setIfInBounds_toArray, List.set_cons_zero, List.set_cons_succ, i64_w, i32_w]
    rfl
  refine pure_ (i := 2) (N := some 69) (v := ?_) (a' := ?_) #[false, true, true, false, false, false, false, false, false, false, false, false, false, false] rfl rfl (any_of HT_.out (by kernel_rfl)) (fun _ _ _ h => h) (Or.inl ⟨by rfl, ?_⟩) ?_ ?_
  rotate_left
  · intro w'
    go_simp
    with_reducible rfl
  rotate_left
  · simp only [Act.put, List.setIfInBounds_toArray, List.set_cons_zero, List.set_cons_succ, i64_w, i32_w]
    rfl
  refine pure_ (i := 3) (N := some 70) (v := ?_) (a' := ?_) #[false, true, true, true, false, false, false, false, false, false, false, false, false, false] rfl rfl (any_of HT_.out (by kernel_rfl)) (fun _ _ _ h => h) (Or.inl ⟨by rfl, ?_⟩) ?_ ?_
  rotate_left
  · intro w'
    go_simp
    with_reducible rfl
  rotate_left
  · simp only [Act.put, List.setIfInBounds_toArray, List.set_cons_zero, List.set_cons_succ, i64_w, i32_w]
    rfl
  refine pure_ (i := 4) (N := some 71) (v := ?_) (a' := ?_) #[false, true, true, true, true, false, false, false, false, false, false, false, false, false] rfl rfl (any_of HT_.out (by kernel_rfl)) (fun _ _ _ h => h) (Or.inl ⟨by rfl, ?_⟩) ?_ ?_
  rotate_left
  · intro w'
    go_simp
    with_reducible rfl
  rotate_left
  · simp only [Act.put, List.setIfInBounds_toArray, List.set_cons_zero, List.set_cons_succ, i64_w, i32_w]
    rfl
  refine pure_ (i := 5) (N := some 72) (v := undef) (a' := ?_) #[false, true, true, true, true, true, false, false, false, false, false, false, false, false] rfl rfl (any_of HT_.out (by kernel_rfl)) (fun _ _ _ h => h) (Or.inr ⟨by rfl, rfl⟩) ?_ ?_
  rotate_left
  · simp only [Act.put, List.setIfInBounds_toArray, List.set_cons_zero, List.set_cons_succ, i64_w, i32_w]
    rfl
  refine pure_ (i := 6) (N := some 73) (v := undef) (a' := ?_) #[false, true, true, true, true, true, true, false, false, false, false, false, false, false] rfl rfl (any_of HT_.out (by kernel_rfl)) (fun _ _ _ h => h) (Or.inr ⟨by rfl, rfl⟩) ?_ ?_
  rotate_left
  · simp only [Act.put, List.setIfInBounds_toArray, List.set_cons_zero, List.set_cons_succ, i64_w, i32_w]
    rfl
  refine pure_ (i := 7) (N := some 74) (v := undef) (a' := ?_) #[false, true, true, true, true, true, true, true, false, false, false, false, false, false] rfl rfl (any_of HT_.out (by kernel_rfl)) (fun _ _ _ h => h) (Or.inr ⟨by rfl, rfl⟩) ?_ ?_
  rotate_left
  · simp only [Act.put, List.setIfInBounds_toArray, List.set_cons_zero, List.set_cons_succ, i64_w, i32_w]
    rfl
  refine pure_ (i := 8) (N := some 75) (v := undef) (a' := ?_) #[false, true, true, true, true, true, true, true, true, false, false, false, false, false] rfl rfl (any_of HT_.out (by kernel_rfl)) (fun _ _ _ h => h) (Or.inr ⟨by rfl, rfl⟩) ?_ ?_
  rotate_left
  · simp only [Act.put, List.setIfInBounds_toArray, List.set_cons_zero, List.set_cons_succ, i64_w, i32_w]
    rfl
  refine pure_ (i := 9) (N := some 76) (v := undef) (a' := ?_) #[false, true, true, true, true, true, true, true, true, true, false, false, false, false] rfl rfl (any_of HT_.out (by kernel_rfl)) (fun _ _ _ h => h) (Or.inr ⟨by rfl, rfl⟩) ?_ ?_
  rotate_left
  · simp only [Act.put, List.setIfInBounds_toArray, List.set_cons_zero, List.set_cons_succ, i64_w, i32_w]
    rfl
  refine pure_ (i := 10) (N := some 77) (v := ?_) (a' := ?_) #[false, true, true, true, true, true, true, true, true, true, true, false, false, false] rfl rfl (any_of HT_.out (by kernel_rfl)) (fun _ _ _ h => h) (Or.inl ⟨by rfl, ?_⟩) ?_ ?_
  rotate_left
  · intro w'
    go_simp
    with_reducible rfl
  rotate_left
  · simp only [Act.put, List.setIfInBounds_toArray, List.set_cons_zero, List.set_cons_succ, i64_w, i32_w]
    rfl
  refine take_ (i := 0) (N := some 67) (v := ?_) (a' := ?_) #[true, true, true, true, true, true, true, true, true, true, true, false, false, false] rfl rfl (take_ofW HT_.out HW_.out (by kernel_rfl)) (fun _ _ _ h => h) (Or.inl ⟨by rfl, ?_⟩) hHeld ?_ ?_
  rotate_left
  · rintro w' ⟨s0, s1, s2, s3, s4⟩
    go_simp
    with_reducible rfl
  rotate_left
  · simp only [Act.put, List.setIfInBounds_toArray, List.set_cons_zero, List.set_cons_succ, i64_w, i32_w]
    rfl
  refine one_ (i := 11) (N := none) #[true, true, true, true, true, true, true, true, true, true, true, true, false, false] rfl rfl (one_of HT_.out (by kernel_rfl)) (by decide) (fun K hK => ?_)
  obtain ⟨t0, t1, t2, t3, t4⟩ := rec_cells RB.out
  have f0 := blk_frozen RB.out 0
  have f1 := blk_frozen RB.out 1
  have f2 := blk_frozen RB.out 2
  have f3 := blk_frozen RB.out 3
  have f4 := blk_frozen RB.out 4
  refine skip_ (w1 := ?_) (by rfl) rfl ?_ ?_
  rotate_left
  · go_simp
    rfl
  have ST := Aside0.mk (set5 RB.out K5.out (Nat.le_refl _) (.int .i64 1) (.int .i64 (bk : Int)) (.int .i64 o) (.slice Ad dt.length cd) (.int .i64 0))
  have SO := Aside0.mk (only5 w.heap.size w5 (.int .i64 1) (.int .i64 (bk : Int)) (.int .i64 o) (.slice Ad dt.length cd) (.int .i64 0))
  have R6 := Aside0.mk ((SO.out.block w1.heap.size (Ne.symm (Nat.ne_of_lt NE.out))).trans R5.out)
  have Y6 := Aside0.mk (own_kept Y5.out (fun g h1 h2 => SO.out.block g (Ne.symm (Nat.ne_of_lt (Nat.lt_of_lt_of_le NY.out (own_lt Y5.out g h1 h2).1)))))
  have C6 := Aside0.mk (Kd.C_below HC.out ST.out.2)
  have D6 := Aside0.mk (own_kept D5.out (fun g h1 h2 => SO.out.block g (Ne.symm (Nat.ne_of_lt (Nat.lt_of_lt_of_le ND.out (own_lt D5.out g h1 h2).1)))))
  refine hK.out _ _ ⟨(rec_cells R6.out).1, (rec_cells R6.out).2.1, (rec_cells R6.out).2.2.1, (rec_cells R6.out).2.2.2.1, (rec_cells R6.out).2.2.2.2⟩ ?_
  intro hHeld2
  clear hK K t0 t1 t2 t3 t4 f0 f1 f2 f3 f4
  refine pure_ (i := 12) (N := some 3) (v := ?_) (a' := ?_) #[true, true, true, true, true, true, true, true, true, true, true, true, true, false] rfl rfl (any_of HT_.out (by kernel_rfl)) (fun _ _ _ h => h) (Or.inl ⟨by rfl, ?_⟩) ?_ ?_
  rotate_left
  · intro w'
    go_simp
    with_reducible rfl
  rotate_left
  · simp only [Act.put, List.setIfInBounds_toArray, List.set_cons_zero, List.set_cons_succ, i64_w, i32_w]
    rfl
  refine pure_ (i := 13) (N := some 4) (v := ?_) (a' := ?_) #[true, true, true, true, true, true, true, true, true, true, true, true, true, true] rfl rfl (any_of HT_.out (by kernel_rfl)) (fun _ _ _ h => h) (Or.inl ⟨by rfl, ?_⟩) ?_ ?_
  rotate_left
  · intro w'
    go_simp
    with_reducible rfl
  rotate_left
  · simp only [Act.put, List.setIfInBounds_toArray, List.set_cons_zero, List.set_cons_succ, i64_w, i32_w]
    rfl
  refine done_ (done_of HT_.out (by kernel_rfl)) ?_
  try go_wp2_with fail
  refine bodyPost_ret (results_ctt rfl _ _ w.heap.size 24 #[.int .i64 1, .int .i64 (bk : Int), .int .i64 o, (.slice Ad dt.length cd), .int .i64 0] (0, 0) _ rfl ST.out.1 Try.underlying24 rfl (by kernel_rfl)) rfl ?_
  refine ⟨_, _, ?_, own_lower D6.out (Nat.le_of_lt ND.out), ST.out.2⟩
  show Ending.returned (.tuple #[.agg #[.int .i64 1, .int .i64 (bk : Int), .int .i64 o, (.slice Ad dt.length cd), .int .i64 0], .int .i64 v, .bool false]) = _
  rw [decide_eq_false (fun e => hn0 e.1)]
end
end Go.Proofs.Ytglgndeoldgjbaa.Pure
