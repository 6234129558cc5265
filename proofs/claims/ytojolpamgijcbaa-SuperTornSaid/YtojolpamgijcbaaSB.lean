/- A super's block, by the code: its walk. -/
import Derived.Test.YtojolpamgijcbaaSupB
import Derived.Test.YtojolpamgijcbaaWZeros
import Derived.Deep.RegionHeld3
import Derived.ArgAppend
namespace Go.Proofs.Ytojolpamgijcbaa.Pure
open Go.RowKit Go.Proofs.Ytojolpamgijcbaa Go.Proofs.Ytojolpamgijcbaa.PAll Go.Proofs.Ytojolpamgijcbaa.Mem Go.Proofs.YtojolpamgijcbaaW.PrintWords Go.Proofs.YtojolpamgijcbaaW.PrintLast Go.Proofs.YtojolpamgijcbaaW.PrintMore
set_option linter.unusedVariables false
set_option linter.unusedSimpArgs false
def el (a1 a2 a3 a4 : Int) : Nat → Int | 0 => a1 | 1 => a2 | 2 => a3 | _ => a4
theorem el_nn {a1 a2 a3 a4 : Int} (h1 : 0 ≤ a1 ∧ a1 < 18446744073709551616) (h2 : 0 ≤ a2 ∧ a2 < 18446744073709551616) (h3 : 0 ≤ a3 ∧ a3 < 18446744073709551616) (h4 : 0 ≤ a4 ∧ a4 < 18446744073709551616) (j : Nat) : 0 ≤ el a1 a2 a3 a4 j ∧ el a1 a2 a3 a4 j < 18446744073709551616 := by
  unfold el
  split <;> assumption
/-- What stands there behind j of the four numbers. -/
def hdJ (x : List Int) (a1 a2 a3 a4 : Int) : Nat → List Int | 0 => x | j + 1 => hdJ x a1 a2 a3 a4 j ++ numL 4 (el a1 a2 a3 a4 j).toNat
theorem hdJ_len {x : List Int} (a1 a2 a3 a4 : Int) {n : Nat} (h : x.length = n) : ∀ j, (hdJ x a1 a2 a3 a4 j).length = n + 4 * j
  | 0 => h
  | j + 1 => by
    unfold hdJ
    rw [List.length_append, hdJ_len a1 a2 a3 a4 h j, numL_length]
    omega
theorem ints_cell {w : World} {g : Nat} {a1 a2 a3 a4 : Int} (h : w.heap[g]? = some (.cells #[.int .i64 a1, .int .i64 a2, .int .i64 a3, .int .i64 a4] 3 (0, 0))) {j : Nat} (hj : j < 4) : w.cell? ⟨g, j, none⟩ = some (.int .i64 (el a1 a2 a3 a4 j)) := by
  obtain rfl | rfl | rfl | rfl : j = 0 ∨ j = 1 ∨ j = 2 ∨ j = 3 := by omega
  all_goals (unfold World.cell?; simp only [h]; rfl)

set_option maxRecDepth 100000 in
set_option maxHeartbeats 8000000 in
theorem sbytes_ok (w : World) (a0 a1 a2 a3 a4 a5 : Int) (hg : super_Check.f a0 a1 a2 a3 a4 a5 = some 0) : Calls Try.prog 17 #[.agg #[.int .i64 a0, .int .i64 a1, .int .i64 a2, .int .i64 a3, .int .i64 a4, .int .i64 a5]] w fun e w' => ∃ B d, e = .returned (.tuple #[.slice B 256 d, .int .i64 0]) ∧ Own w' w.heap.size B d (supB a0 a1 a2 a3 a4 a5) ∧ Below w.heap.size w w' := by
  have hu25 := Try.underlying25
  have hu23 := Try.underlying23
  have CK := Aside0.mk hg
  have AB := Aside0.mk (sup_nn hg)
  have K0 := Aside0.mk ((Below.refl w.heap.size w).alloc (Nat.le_refl _) (.cells (supCs a0 a1 a2 a3 a4 a5) 25))
  have S0 := Aside0.mk (heap_new w (.cells (supCs a0 a1 a2 a3 a4 a5) 25))
  have hw0 : IntKind.u64.wrap a0 = a0 := u64w _ (sup_nn hg).1.1 (sup_nn hg).1.2
  obtain ⟨i0, hi0, hi1, hi2, hi3⟩ := info_parts info5
  have I0 := Aside0.mk hi0
  have I1 := Aside0.mk hi1
  have I2 := Aside0.mk hi2
  have I3 := Aside0.mk hi3
  obtain ⟨x1, hx1⟩ : ∃ x, x = magic ++ numL 8 a0.toNat := ⟨_, rfl⟩
  have Xx1 := Aside0.mk hx1.symm
  have Lx1 := Aside0.mk (show x1.length = 16 by rw [hx1, List.length_append, numL_length, show magic.length = 8 from rfl])
  clear hg hi0 hi1 hi2 hi3 hx1
  go_enter Try.func17, Try.ntmps17
  go_wp2_with fail
  refine (super_Check.calls a0 a1 a2 a3 a4 a5 0 _ CK.out).mono ?_
  rintro e w1 ⟨rfl, hb1⟩
  have K1 := Aside0.mk (K0.out.trans (hb1.mono K0.out.size))
  have SA := Aside0.mk ((hb1.block _ (blk_lt S0.out)).trans S0.out)
  clear hb1
  obtain ⟨s0, s1, s2, s3, s4, s5⟩ := sup_cells SA.out
  go_wp2_with (first
    | (at_make; (refine wpList_make_own w1 rfl (.const (.int .i64 0)) (.const (.int .i64 256)) 34 rfl w1.heap.size 5 i0 (.int .u8 0) 1 Try.underlying34 I0.out I1.out I2.out .i64 .i64 256 256 rfl rfl rfl ?b2 (by decide) (Nat.le_refl _) ?_); (case b2 => rw [I3.out]; decide); intro w2 hown hg2; have OM := Aside0.mk hown; have HB := Aside0.mk ((Below.refl w1.heap.size w1).grown hg2 (Nat.le_refl _) (fun _ h => by cases h)); clear hown hg2)
    | (at_builtin; (refine print_append_str (w0 := w1) w1.heap.size rfl (.tmp 14) (.const (.string { data := #[97, 116, 116, 105, 99, 32, 49, 10] })) 34 9 5 rfl Try.underlying34 Try.underlying9 info5 _ ([] : List Int) { data := #[97, 116, 116, 105, 99, 32, 49, 10] } rfl rfl OM.out HB.out HB.out.size (by decide) ?_); intro v1 w3 hown hbn hg3; have HB3 := Aside0.mk hbn; have RB := Aside0.mk (Kd.R_of_own (enc := Value.int .u8) (h1 := fun _ => rfl) (xs := magic) (ok := fun _ => True) hown (fun _ _ => trivial)); obtain ⟨Ac, cc, hv1, hq⟩ := own_of RB.out; subst hv1; have S1 := Aside0.mk ((HB3.out.block _ (blk_lt SA.out)).trans SA.out); clear hown hbn hg3 hq OM HB s0 s1 s2 s3 s4 s5; obtain ⟨s0, s1, s2, s3, s4, s5⟩ := sup_cells S1.out))
  refine (num_c 8 a0 AB.out.1.1 (by decide)).mono ?_
  rintro e w4 ⟨v0, rfl, hr0, hb⟩
  obtain ⟨An, cn, hv0, hn0⟩ := own_of hr0
  subst hv0
  have NB := Aside0.mk hn0.C
  replace RB := Aside0.mk (Kd.R_below RB.out hb)
  have HB := Aside0.mk (HB3.out.trans (hb.mono HB3.out.size))
  clear hr0 hb hn0 HB3 S1 s0 s1 s2 s3 s4 s5 hw0
  go_wp2_with (first | (at_builtin; (refine Kd.R_append_rows (Kd.int .u8) (w0 := w1) w1.heap.size rfl (.tmp 16) (.tmp 20) 34 5 (.int .u8 0) 1 rfl Try.underlying34 info5 rfl (by decide) (by decide) (.slice Ac magic.length cc) (magic) (numL 8 a0.toNat) _ _ _ (fun _ => True) (fun _ => False) rfl rfl ?aO ?aR (fun _ _ h => h) (fun _ h => h.elim) ?aF ?aB ?aS ?aL ?_); (case aO => exact RB.out); (case aR => (exact NB.out)); (case aF => exact (fun _ _ => trivial)); (case aB => exact HB.out); (case aS => exact HB.out.size); (case aL => (exact ap_le (show magic.length = 8 from rfl) (numL_length _ _))); intro v1 w5 ho hbn hg hat; rw [Xx1.out] at ho; clear RB HB; have RB := Aside0.mk ho; have HB := Aside0.mk hbn; have S1 := Aside0.mk ((HB.out.block _ (blk_lt SA.out)).trans SA.out); obtain ⟨Ac, cc, hv1, hq⟩ := own_of ho; subst hv1; clear ho hbn hg hat hq NB; obtain ⟨s0, s1, s2, s3, s4, s5⟩ := sup_cells S1.out))
  obtain ⟨gI, hgI⟩ : ∃ g, g = w5.heap.size := ⟨_, rfl⟩
  have BI := Aside0.mk (show (w5.alloc (.cells #[.int .i64 a1, .int .i64 a2, .int .i64 a3, .int .i64 a4] 3)).heap[gI]? = some (.cells #[.int .i64 a1, .int .i64 a2, .int .i64 a3, .int .i64 a4] 3 (0, 0)) from by rw [hgI]; exact heap_new w5 _)
  have GI := Aside0.mk (show w1.heap.size ≤ gI by rw [hgI]; exact HB.out.size)
  replace HB := Aside0.mk (HB.out.alloc HB.out.size (.cells #[.int .i64 a1, .int .i64 a2, .int .i64 a3, .int .i64 a4] 3))
  replace RB := Aside0.mk (Kd.R_alloc RB.out (.cells #[.int .i64 a1, .int .i64 a2, .int .i64 a3, .int .i64 a4] 3))
  rw [← hgI]
  clear hgI
  go_loopg [5, 36] 4 (fun q v5 v36 w' => ∃ (j : Nat) (y : List Int) (A : Option Addr) (c : Nat), v5 = .slice A y.length c ∧ v36 = .int .i64 (j : Int) ∧ Aside0 (j + q = 4) ∧ Aside0 (y = hdJ x1 a1 a2 a3 a4 j) ∧ Aside0 (Kd.R (Kd.int .u8) 5 w' w1.heap.size (fun _ => True) (.slice A y.length c) y) ∧ Aside0 (Below w1.heap.size w1 w') ∧ Aside0 (w'.heap[gI]? = some (.cells #[.int .i64 a1, .int .i64 a2, .int .i64 a3, .int .i64 a4] 3 (0, 0))))
  case atStart => exact ⟨0, x1, _, _, rfl, rfl, ⟨rfl⟩, ⟨rfl⟩, RB, HB, BI⟩
  case round =>
    clear RB HB BI S1 s0 s1 s2 s3 s4 s5
    obtain ⟨j, y, A, c, rfl, rfl, HJ, HY, RB, HB, BI⟩ := hrel
    have LY := Aside0.mk (show y.length = 16 + 4 * j by rw [HY.out, hdJ_len a1 a2 a3 a4 Lx1.out])
    by_cases hlt : j < 4
    case pos =>
      have hgd : decide (j < 4) = true := decide_eq_true hlt
      have EN := Aside0.mk (el_nn AB.out.2.1 AB.out.2.2.1 AB.out.2.2.2.1 AB.out.2.2.2.2.1 j)
      have hcell := ints_cell BI.out hlt
      obtain ⟨ev, hev⟩ : ∃ v, v = el a1 a2 a3 a4 j := ⟨_, rfl⟩
      rw [← hev] at hcell EN
      have YN := Aside0.mk (show y ++ numL 4 ev.toNat = hdJ x1 a1 a2 a3 a4 (j + 1) by rw [HY.out, hev]; rfl)
      have hwe : IntKind.u64.wrap ev = ev := u64w _ EN.out.1 EN.out.2
      clear hev
      go_wp2_with fail
      refine (num_c 4 ev EN.out.1 (by decide)).mono ?_
      rintro e wn ⟨v0, rfl, hr0, hb⟩
      obtain ⟨An, cn, hv0, hn0⟩ := own_of hr0
      subst hv0
      have NB := Aside0.mk hn0.C
      replace RB := Aside0.mk (Kd.R_below RB.out hb)
      replace HB := Aside0.mk (HB.out.trans (hb.mono HB.out.size))
      replace BI := Aside0.mk ((hb.block _ (blk_lt BI.out)).trans BI.out)
      obtain ⟨y2, hy2⟩ : ∃ z, z = y ++ numL 4 ev.toNat := ⟨_, rfl⟩
      have XY2 := Aside0.mk hy2.symm
      rw [← hy2] at YN
      clear hr0 hb hn0 hcell hwe hy2 hlt
      go_wp2_with (first | (at_builtin; (refine Kd.R_append_rows (Kd.int .u8) (w0 := w1) w1.heap.size rfl (.tmp 40) (.tmp 43) 34 5 (.int .u8 0) 1 rfl Try.underlying34 info5 rfl (by decide) (by decide) (.slice A y.length c) (y) (numL 4 ev.toNat) _ _ _ (fun _ => True) (fun _ => False) rfl rfl ?aO ?aR (fun _ _ h => h) (fun _ h => h.elim) ?aF ?aB ?aS ?aL ?_); (case aO => exact RB.out); (case aR => (exact NB.out)); (case aF => exact (fun _ _ => trivial)); (case aB => exact HB.out); (case aS => exact HB.out.size); (case aL => (exact ap_le4 LY.out hgd (numL_length _ _))); intro v1 wz ho hbn hg hat; rw [XY2.out] at ho; replace BI := Aside0.mk (blk_grown BI.out hg (Kd.R_ne RB.out BI.out (by decide))); clear RB HB; have RB := Aside0.mk ho; have HB := Aside0.mk hbn; obtain ⟨Ac, cc, hv1, hq⟩ := own_of ho; subst hv1; clear ho hbn hg hat hq NB))
      go_roundg (gk - 1)
      case measure => exact mea4 HJ.out hgd
      case rel => exact ⟨j + 1, y2, _, _, rfl, by go_num, step4 HJ.out hgd, YN, RB, HB, BI⟩
    have hj : j = 4 := by have := HJ.out; omega
    subst hj
    clear hlt
    have hwa5 : IntKind.u64.wrap a5 = a5 := u64w _ AB.out.2.2.2.2.2.1 AB.out.2.2.2.2.2.2
    have S1 := Aside0.mk ((HB.out.block _ (blk_lt SA.out)).trans SA.out)
    obtain ⟨s0, s1, s2, s3, s4, s5⟩ := sup_cells S1.out
    go_wp2_with fail
    refine (num_c 8 a5 AB.out.2.2.2.2.2.1 (by decide)).mono ?_
    rintro e w6 ⟨v0, rfl, hr0, hb⟩
    obtain ⟨An, cn, hv0, hn0⟩ := own_of hr0
    subst hv0
    have NB := Aside0.mk hn0.C
    replace RB := Aside0.mk (Kd.R_below RB.out hb)
    replace HB := Aside0.mk (HB.out.trans (hb.mono HB.out.size))
    obtain ⟨z, hz⟩ : ∃ z, z = y ++ numL 8 a5.toNat := ⟨_, rfl⟩
    have XZ := Aside0.mk hz.symm
    have LZ := Aside0.mk (show z.length = 40 by rw [hz, List.length_append, LY.out, numL_length])
    have ZH := Aside0.mk (show z = supHd a0 a1 a2 a3 a4 a5 by rw [hz, HY.out]; unfold hdJ hdJ hdJ hdJ hdJ; rw [← Xx1.out]; rfl)
    obtain ⟨u, hu⟩ : ∃ u, u = z ++ List.replicate (20 : Int).toNat 0 := ⟨_, rfl⟩
    have XU := Aside0.mk hu.symm
    have LU := Aside0.mk (show u.length = 60 by rw [hu, List.length_append, LZ.out, List.length_replicate]; rfl)
    have UH := Aside0.mk (show u = supS a0 a1 a2 a3 a4 a5 by rw [hu, ZH.out]; rfl)
    have hzl : (z.length : Int) = 40 := by rw [LZ.out]; rfl
    clear hr0 hb hn0 hwa5 hz hu S1 s0 s1 s2 s3 s4 s5
    go_wp2_with (first | (at_builtin; (refine Kd.R_append_zeros (Kd.int .u8) (w0 := w1) w1.heap.size rfl (.tmp 52) (.tmp 55) 34 3 5 (.int .u8 0) 1 rfl Try.underlying34 Try.underlying3 info5 rfl (by decide) (by decide) (.slice Ac z.length cc) (z) 0 20 (fun _ => True) rfl rfl rfl (fun _ _ => trivial) RB.out (by decide) HB.out HB.out.size ?aL ?_); (case aL => (exact zr_le LZ.out)); intro v1 w8 ho hbn hg hat; rw [XU.out] at ho; clear RB HB; have RB := Aside0.mk ho; have HB := Aside0.mk hbn; obtain ⟨Ac, cc, hv1, hq⟩ := own_of ho; subst hv1; clear ho hbn hg hat hq) | (at_builtin; (refine Kd.R_append_rows (Kd.int .u8) (w0 := w1) w1.heap.size rfl (.tmp 46) (.tmp 50) 34 5 (.int .u8 0) 1 rfl Try.underlying34 info5 rfl (by decide) (by decide) (.slice A y.length c) (y) (numL 8 a5.toNat) _ _ _ (fun _ => True) (fun _ => False) rfl rfl ?aO ?aR (fun _ _ h => h) (fun _ h => h.elim) ?aF ?aB ?aS ?aL ?_); (case aO => exact RB.out); (case aR => (exact NB.out)); (case aF => exact (fun _ _ => trivial)); (case aB => exact HB.out); (case aS => exact HB.out.size); (case aL => (exact ap_le LY.out (numL_length _ _))); intro v1 w7 ho hbn hg hat; rw [XZ.out] at ho; clear RB HB; have RB := Aside0.mk ho; have HB := Aside0.mk hbn; obtain ⟨Ac, cc, hv1, hq⟩ := own_of ho; subst hv1; clear ho hbn hg hat hq))
    have UB := Aside0.mk (show Bytes u by rw [UH.out]; exact supS_bytes _ _ _ _ _ _)
    refine (word_Seal.calls 1000 (fun _ => True) Ac cc u (sealA u) w8 (Kd.V_mono (Kd.R_V RB.out) (fun _ h => h)) (seal_f u UB.out (by rw [LU.out]; decide) 1000 (by rw [LU.out]; decide))).mono ?_
    rintro e w9 ⟨v0, rfl, hr0, hb⟩
    obtain ⟨t, ht⟩ : ∃ t, t = sealA u := ⟨_, rfl⟩
    have LT := Aside0.mk (show t.length = 64 by rw [ht, seal_length, LU.out])
    have TH := Aside0.mk (show t = sealA (supS a0 a1 a2 a3 a4 a5) by rw [ht, UH.out])
    rw [← ht] at hr0
    obtain ⟨At, ct, hv0, hn0⟩ := own_of hr0
    subst hv0
    have RB2 := Aside0.mk (Kd.R_mono (Kd.R_lower hr0 HB.out.size) (fun _ _ => trivial) : Kd.R (Kd.int .u8) 5 w9 w1.heap.size (fun _ => True) _ _)
    replace HB := Aside0.mk (HB.out.trans (hb.mono HB.out.size))
    clear RB
    have RB := RB2
    obtain ⟨f, hf⟩ : ∃ f, f = t ++ List.replicate (192 : Int).toNat 0 := ⟨_, rfl⟩
    have XF := Aside0.mk hf.symm
    have LF := Aside0.mk (show f.length = 256 by rw [hf, List.length_append, LT.out, List.length_replicate]; rfl)
    have FH := Aside0.mk (show f = supB a0 a1 a2 a3 a4 a5 by rw [hf, TH.out]; rfl)
    have htl : (t.length : Int) = 64 := by rw [LT.out]; rfl
    clear hr0 hb hn0 hzl RB2 hf ht
    go_wp2_with (first | (at_builtin; (refine Kd.R_append_zeros (Kd.int .u8) (w0 := w1) w1.heap.size rfl (.tmp 58) (.tmp 61) 34 3 5 (.int .u8 0) 1 rfl Try.underlying34 Try.underlying3 info5 rfl (by decide) (by decide) (.slice At t.length ct) (t) 0 192 (fun _ => True) rfl rfl rfl (fun _ _ => trivial) RB.out (by decide) HB.out HB.out.size ?aL ?_); (case aL => (exact zr_le LT.out)); intro v1 wf ho hbn hg hat; rw [XF.out] at ho; clear RB HB; have RB := Aside0.mk ho; have HB := Aside0.mk hbn; obtain ⟨Ac, cc, hv1, hq⟩ := own_of ho; subst hv1; clear ho hbn hg hat hq))
    obtain ⟨Ay2, cy2, hvy, hoy⟩ := own_of RB.out
    cases hvy
    have OF := Aside0.mk (own_lower hoy K1.out.size)
    have KF := Aside0.mk (K1.out.trans (HB.out.mono K1.out.size))
    have hfl : f.length = 256 := LF.out
    clear hoy
    go_ret2
    refine ⟨Ac, cc, ?_, ?_, KF.out⟩
    · show Ending.returned (.tuple #[.slice Ac f.length cc, .int .i64 0]) = _
      rw [hfl]
    · rw [← FH.out]
      exact OF.out
set_option maxRecDepth 100000 in
set_option maxHeartbeats 8000000 in
theorem sbytes_no (w : World) (a0 a1 a2 a3 a4 a5 ck : Int) (hck : super_Check.f a0 a1 a2 a3 a4 a5 = some ck) (h0 : ck ≠ 0) : Calls Try.prog 17 #[.agg #[.int .i64 a0, .int .i64 a1, .int .i64 a2, .int .i64 a3, .int .i64 a4, .int .i64 a5]] w fun e w' => e = .returned (.tuple #[.slice none 0 0, .int .i64 ck]) ∧ Below w.heap.size w w' := by
  have hu25 := Try.underlying25
  have hu23 := Try.underlying23
  have CK := Aside0.mk hck
  have K0 := Aside0.mk ((Below.refl w.heap.size w).alloc (Nat.le_refl _) (.cells (supCs a0 a1 a2 a3 a4 a5) 25))
  have hne : (ck != 0) = true := by simpa using h0
  clear hck h0
  go_enter Try.func17, Try.ntmps17
  go_wp2_with fail
  refine (super_Check.calls a0 a1 a2 a3 a4 a5 ck _ CK.out).mono ?_
  rintro e w1 ⟨rfl, hb1⟩
  have K1 := Aside0.mk (K0.out.trans (hb1.mono K0.out.size))
  clear hb1
  go_wp2_with fail
  go_ret2
  exact ⟨rfl, K1.out⟩
end Go.Proofs.Ytojolpamgijcbaa.Pure
