/- A super's block: its walk. -/
import Derived.Test.YtojolpamgijcbaaSupB
import Derived.Test.YtojolpamgijcbaaWZeros
import Derived.Deep.RegionHeld3
import Derived.ArgAppend
namespace Go.Proofs.Ytojolpamgijcbaa.Pure
open Go.RowKit Go.Proofs.Ytojolpamgijcbaa Go.Proofs.Ytojolpamgijcbaa.PAll Go.Proofs.Ytojolpamgijcbaa.Mem Go.Proofs.YtojolpamgijcbaaW.PrintWords Go.Proofs.YtojolpamgijcbaaW.PrintLast Go.Proofs.YtojolpamgijcbaaW.PrintMore
set_option linter.unusedVariables false
set_option linter.unusedSimpArgs false

set_option maxRecDepth 100000 in
set_option maxHeartbeats 8000000 in
theorem rsbytes_ok (w : World) (a0 a1 a2 a3 a4 a5 : Int) (hck : atticref05_Check.f 1 a0 a1 a2 a3 a4 a5 = some 0) (hg : super_Check.f a0 a1 a2 a3 a4 a5 = some 0) : Calls Try.prog 18 #[.agg #[.int .i64 a0, .int .i64 a1, .int .i64 a2, .int .i64 a3, .int .i64 a4, .int .i64 a5]] w fun e w' => ∃ B d, e = .returned (.tuple #[.slice B 256 d, .int .i64 0]) ∧ Own w' w.heap.size B d (supB a0 a1 a2 a3 a4 a5) ∧ Below w.heap.size w w' := by
  have hu25 := Try.underlying25
  have hu23 := Try.underlying23
  have CK := Aside0.mk hck
  have AB := Aside0.mk (sup_nn hg)
  have K0 := Aside0.mk ((Below.refl w.heap.size w).alloc (Nat.le_refl _) (.cells (supCs a0 a1 a2 a3 a4 a5) 25))
  have S0 := Aside0.mk (heap_new w (.cells (supCs a0 a1 a2 a3 a4 a5) 25))
  have kc := fun (w : World) (C : Array Value) (n c : Nat) => Lib.run_convert_bytes_const (P := Try.prog) w 34 5 C n c Try.underlying34 Try.underlying5
  have hw0 : IntKind.u64.wrap a0 = a0 := u64w _ (sup_nn hg).1.1 (sup_nn hg).1.2
  clear hck hg
  obtain ⟨x1, hx1⟩ : ∃ x, x = magic ++ numL 8 a0.toNat := ⟨_, rfl⟩
  obtain ⟨x2, hx2⟩ : ∃ x, x = x1 ++ numL 4 a1.toNat := ⟨_, rfl⟩
  obtain ⟨x3, hx3⟩ : ∃ x, x = x2 ++ numL 4 a2.toNat := ⟨_, rfl⟩
  obtain ⟨x4, hx4⟩ : ∃ x, x = x3 ++ numL 4 a3.toNat := ⟨_, rfl⟩
  obtain ⟨x5, hx5⟩ : ∃ x, x = x4 ++ numL 4 a4.toNat := ⟨_, rfl⟩
  obtain ⟨x6, hx6⟩ : ∃ x, x = x5 ++ numL 8 a5.toNat := ⟨_, rfl⟩
  have HX := Aside0.mk (show x6 = supHd a0 a1 a2 a3 a4 a5 by rw [hx6, hx5, hx4, hx3, hx2, hx1]; rfl)
  have Lx1 := Aside0.mk (show x1.length = 16 by rw [hx1, List.length_append, numL_length, show magic.length = 8 from rfl])
  have Lx2 := Aside0.mk (show x2.length = 20 by rw [hx2, List.length_append, numL_length, Lx1.out])
  have Lx3 := Aside0.mk (show x3.length = 24 by rw [hx3, List.length_append, numL_length, Lx2.out])
  have Lx4 := Aside0.mk (show x4.length = 28 by rw [hx4, List.length_append, numL_length, Lx3.out])
  have Lx5 := Aside0.mk (show x5.length = 32 by rw [hx5, List.length_append, numL_length, Lx4.out])
  have Lx6 := Aside0.mk (show x6.length = 40 by rw [hx6, List.length_append, numL_length, Lx5.out])
  have Xx1 := Aside0.mk hx1.symm
  have Xx2 := Aside0.mk hx2.symm
  have Xx3 := Aside0.mk hx3.symm
  have Xx4 := Aside0.mk hx4.symm
  have Xx5 := Aside0.mk hx5.symm
  have Xx6 := Aside0.mk hx6.symm
  clear hx1 hx2 hx3 hx4 hx5 hx6
  obtain ⟨x1, hx1⟩ : ∃ x, x = magic ++ numL 8 a0.toNat := ⟨_, rfl⟩
  obtain ⟨x2, hx2⟩ : ∃ x, x = x1 ++ numL 4 a1.toNat := ⟨_, rfl⟩
  obtain ⟨x3, hx3⟩ : ∃ x, x = x2 ++ numL 4 a2.toNat := ⟨_, rfl⟩
  obtain ⟨x4, hx4⟩ : ∃ x, x = x3 ++ numL 4 a3.toNat := ⟨_, rfl⟩
  obtain ⟨x5, hx5⟩ : ∃ x, x = x4 ++ numL 4 a4.toNat := ⟨_, rfl⟩
  obtain ⟨x6, hx6⟩ : ∃ x, x = x5 ++ numL 8 a5.toNat := ⟨_, rfl⟩
  have HX := Aside0.mk (show x6 = supHd a0 a1 a2 a3 a4 a5 by rw [hx6, hx5, hx4, hx3, hx2, hx1]; rfl)
  have Lx1 := Aside0.mk (show x1.length = 16 by rw [hx1, List.length_append, numL_length, show magic.length = 8 from rfl])
  have Lx2 := Aside0.mk (show x2.length = 20 by rw [hx2, List.length_append, numL_length, Lx1.out])
  have Lx3 := Aside0.mk (show x3.length = 24 by rw [hx3, List.length_append, numL_length, Lx2.out])
  have Lx4 := Aside0.mk (show x4.length = 28 by rw [hx4, List.length_append, numL_length, Lx3.out])
  have Lx5 := Aside0.mk (show x5.length = 32 by rw [hx5, List.length_append, numL_length, Lx4.out])
  have Lx6 := Aside0.mk (show x6.length = 40 by rw [hx6, List.length_append, numL_length, Lx5.out])
  have Xx1 := Aside0.mk hx1.symm
  have Xx2 := Aside0.mk hx2.symm
  have Xx3 := Aside0.mk hx3.symm
  have Xx4 := Aside0.mk hx4.symm
  have Xx5 := Aside0.mk hx5.symm
  have Xx6 := Aside0.mk hx6.symm
  clear hx1 hx2 hx3 hx4 hx5 hx6
  go_enter Try.func18, Try.ntmps18
  go_wp2_with fail
  refine (atticref05_Check.calls 1 a0 a1 a2 a3 a4 a5 0 _ CK.out).mono ?_
  rintro e w1 ⟨rfl, hb1⟩
  have K1 := Aside0.mk (K0.out.trans (hb1.mono K0.out.size))
  have SA := Aside0.mk ((hb1.block _ (blk_lt S0.out)).trans S0.out)
  have HB := Aside0.mk ((Below.refl w1.heap.size w1).alloc (Nat.le_refl _) (.cells #[.int .u8 97, .int .u8 116, .int .u8 116, .int .u8 105, .int .u8 99, .int .u8 32, .int .u8 49, .int .u8 10] 5 (8, 9)))
  have S1 := Aside0.mk ((HB.out.block _ (blk_lt SA.out)).trans SA.out)
  have C1 := Aside0.mk (show Kd.C (Kd.int .u8) (w1.alloc (.cells #[.int .u8 97, .int .u8 116, .int .u8 116, .int .u8 105, .int .u8 99, .int .u8 32, .int .u8 49, .int .u8 10] 5 (8, 9))) (some ⟨w1.heap.size, 0, none⟩) 8 magic from blk_C (enc := Value.int .u8) (h1 := fun _ => rfl) (cur := encs (Value.int .u8) magic) (heap_new w1 _) rfl (by decide))
  clear hb1
  obtain ⟨s0, s1, s2, s3, s4, s5⟩ := sup_cells S1.out
  go_wp2_with fail
  refine (rnum_c 8 a0 AB.out.1.1 (by decide)).mono ?_
  rintro e w2 ⟨v0, rfl, hr0, hb⟩
  obtain ⟨An, cn, hv0, hn0⟩ := own_of hr0
  subst hv0
  have NB := Aside0.mk hn0
  have HC := Aside0.mk (Kd.C_below C1.out hb)
  have HB2 := Aside0.mk (HB.out.trans (hb.mono HB.out.size))
  clear hr0 hb hn0 HB S1 s0 s1 s2 s3 s4 s5 hw0
  have hw1 : IntKind.u64.wrap a1 = a1 := u64w _ AB.out.2.1.1 AB.out.2.1.2
  go_wp2_with (first | (at_builtin; (refine app_new rfl (.tmp 13) (.tmp 17) 34 5 rfl Try.underlying34 info5 _ _ 8 8 _ _ magic (numL 8 a0.toNat) rfl rfl HC.out ?aR (by decide) (by decide) (by decide) (by decide) ?_); (case aR => (exact NB.out.C)); intro v1 w3 ho hbn; rw [Xx1.out] at ho; have RB := Aside0.mk (Kd.R_lower ho HB2.out.size); have HB := Aside0.mk (HB2.out.trans (hbn.mono HB2.out.size)); have S1 := Aside0.mk ((HB.out.block _ (blk_lt SA.out)).trans SA.out); obtain ⟨Ac, cc, hv1, hq⟩ := own_of ho; subst hv1; clear ho hbn hq NB HB2; obtain ⟨s0, s1, s2, s3, s4, s5⟩ := sup_cells S1.out))
  refine (rnum_c 4 a1 AB.out.2.1.1 (by decide)).mono ?_
  rintro e w4 ⟨v0, rfl, hr0, hb⟩
  obtain ⟨An, cn, hv0, hn0⟩ := own_of hr0
  subst hv0
  have NB := Aside0.mk hn0.C
  replace RB := Aside0.mk (Kd.R_below RB.out hb)
  replace HB := Aside0.mk (HB.out.trans (hb.mono HB.out.size))
  replace S1 := Aside0.mk ((HB.out.block _ (blk_lt SA.out)).trans SA.out)
  clear hr0 hb hn0 s0 s1 s2 s3 s4 s5 hw1
  have hw2 : IntKind.u64.wrap a2 = a2 := u64w _ AB.out.2.2.1.1 AB.out.2.2.1.2
  go_wp2_with (first | (at_builtin; (refine Kd.R_append_rows (Kd.int .u8) (w0 := w1) w1.heap.size rfl (.tmp 19) (.tmp 24) 34 5 (.int .u8 0) 1 rfl Try.underlying34 info5 rfl (by decide) (by decide) (.slice Ac x1.length cc) (x1) (numL 4 a1.toNat) _ _ _ (fun _ => True) (fun _ => False) rfl rfl ?aO ?aR (fun _ _ h => h) (fun _ h => h.elim) ?aF ?aB ?aS ?aL ?_); (case aO => exact RB.out); (case aR => (exact NB.out)); (case aF => exact (fun _ _ => trivial)); (case aB => exact HB.out); (case aS => exact HB.out.size); (case aL => (exact ap_le Lx1.out (numL_length _ _))); intro v1 w5 ho hbn hg hat; rw [Xx2.out] at ho; clear RB HB S1; have RB := Aside0.mk ho; have HB := Aside0.mk hbn; have S1 := Aside0.mk ((HB.out.block _ (blk_lt SA.out)).trans SA.out); obtain ⟨Ac, cc, hv1, hq⟩ := own_of ho; subst hv1; clear ho hbn hg hat hq NB; obtain ⟨s0, s1, s2, s3, s4, s5⟩ := sup_cells S1.out))
  refine (rnum_c 4 a2 AB.out.2.2.1.1 (by decide)).mono ?_
  rintro e w6 ⟨v0, rfl, hr0, hb⟩
  obtain ⟨An, cn, hv0, hn0⟩ := own_of hr0
  subst hv0
  have NB := Aside0.mk hn0.C
  replace RB := Aside0.mk (Kd.R_below RB.out hb)
  replace HB := Aside0.mk (HB.out.trans (hb.mono HB.out.size))
  replace S1 := Aside0.mk ((HB.out.block _ (blk_lt SA.out)).trans SA.out)
  clear hr0 hb hn0 s0 s1 s2 s3 s4 s5 hw2
  have hw3 : IntKind.u64.wrap a3 = a3 := u64w _ AB.out.2.2.2.1.1 AB.out.2.2.2.1.2
  go_wp2_with (first | (at_builtin; (refine Kd.R_append_rows (Kd.int .u8) (w0 := w1) w1.heap.size rfl (.tmp 26) (.tmp 31) 34 5 (.int .u8 0) 1 rfl Try.underlying34 info5 rfl (by decide) (by decide) (.slice Ac x2.length cc) (x2) (numL 4 a2.toNat) _ _ _ (fun _ => True) (fun _ => False) rfl rfl ?aO ?aR (fun _ _ h => h) (fun _ h => h.elim) ?aF ?aB ?aS ?aL ?_); (case aO => exact RB.out); (case aR => (exact NB.out)); (case aF => exact (fun _ _ => trivial)); (case aB => exact HB.out); (case aS => exact HB.out.size); (case aL => (exact ap_le Lx2.out (numL_length _ _))); intro v1 w7 ho hbn hg hat; rw [Xx3.out] at ho; clear RB HB S1; have RB := Aside0.mk ho; have HB := Aside0.mk hbn; have S1 := Aside0.mk ((HB.out.block _ (blk_lt SA.out)).trans SA.out); obtain ⟨Ac, cc, hv1, hq⟩ := own_of ho; subst hv1; clear ho hbn hg hat hq NB; obtain ⟨s0, s1, s2, s3, s4, s5⟩ := sup_cells S1.out))
  refine (rnum_c 4 a3 AB.out.2.2.2.1.1 (by decide)).mono ?_
  rintro e w8 ⟨v0, rfl, hr0, hb⟩
  obtain ⟨An, cn, hv0, hn0⟩ := own_of hr0
  subst hv0
  have NB := Aside0.mk hn0.C
  replace RB := Aside0.mk (Kd.R_below RB.out hb)
  replace HB := Aside0.mk (HB.out.trans (hb.mono HB.out.size))
  replace S1 := Aside0.mk ((HB.out.block _ (blk_lt SA.out)).trans SA.out)
  clear hr0 hb hn0 s0 s1 s2 s3 s4 s5 hw3
  have hw4 : IntKind.u64.wrap a4 = a4 := u64w _ AB.out.2.2.2.2.1.1 AB.out.2.2.2.2.1.2
  go_wp2_with (first | (at_builtin; (refine Kd.R_append_rows (Kd.int .u8) (w0 := w1) w1.heap.size rfl (.tmp 33) (.tmp 38) 34 5 (.int .u8 0) 1 rfl Try.underlying34 info5 rfl (by decide) (by decide) (.slice Ac x3.length cc) (x3) (numL 4 a3.toNat) _ _ _ (fun _ => True) (fun _ => False) rfl rfl ?aO ?aR (fun _ _ h => h) (fun _ h => h.elim) ?aF ?aB ?aS ?aL ?_); (case aO => exact RB.out); (case aR => (exact NB.out)); (case aF => exact (fun _ _ => trivial)); (case aB => exact HB.out); (case aS => exact HB.out.size); (case aL => (exact ap_le Lx3.out (numL_length _ _))); intro v1 w9 ho hbn hg hat; rw [Xx4.out] at ho; clear RB HB S1; have RB := Aside0.mk ho; have HB := Aside0.mk hbn; have S1 := Aside0.mk ((HB.out.block _ (blk_lt SA.out)).trans SA.out); obtain ⟨Ac, cc, hv1, hq⟩ := own_of ho; subst hv1; clear ho hbn hg hat hq NB; obtain ⟨s0, s1, s2, s3, s4, s5⟩ := sup_cells S1.out))
  refine (rnum_c 4 a4 AB.out.2.2.2.2.1.1 (by decide)).mono ?_
  rintro e w10 ⟨v0, rfl, hr0, hb⟩
  obtain ⟨An, cn, hv0, hn0⟩ := own_of hr0
  subst hv0
  have NB := Aside0.mk hn0.C
  replace RB := Aside0.mk (Kd.R_below RB.out hb)
  replace HB := Aside0.mk (HB.out.trans (hb.mono HB.out.size))
  replace S1 := Aside0.mk ((HB.out.block _ (blk_lt SA.out)).trans SA.out)
  clear hr0 hb hn0 s0 s1 s2 s3 s4 s5 hw4
  have hw5 : IntKind.u64.wrap a5 = a5 := u64w _ AB.out.2.2.2.2.2.1 AB.out.2.2.2.2.2.2
  go_wp2_with (first | (at_builtin; (refine Kd.R_append_rows (Kd.int .u8) (w0 := w1) w1.heap.size rfl (.tmp 40) (.tmp 45) 34 5 (.int .u8 0) 1 rfl Try.underlying34 info5 rfl (by decide) (by decide) (.slice Ac x4.length cc) (x4) (numL 4 a4.toNat) _ _ _ (fun _ => True) (fun _ => False) rfl rfl ?aO ?aR (fun _ _ h => h) (fun _ h => h.elim) ?aF ?aB ?aS ?aL ?_); (case aO => exact RB.out); (case aR => (exact NB.out)); (case aF => exact (fun _ _ => trivial)); (case aB => exact HB.out); (case aS => exact HB.out.size); (case aL => (exact ap_le Lx4.out (numL_length _ _))); intro v1 w11 ho hbn hg hat; rw [Xx5.out] at ho; clear RB HB S1; have RB := Aside0.mk ho; have HB := Aside0.mk hbn; have S1 := Aside0.mk ((HB.out.block _ (blk_lt SA.out)).trans SA.out); obtain ⟨Ac, cc, hv1, hq⟩ := own_of ho; subst hv1; clear ho hbn hg hat hq NB; obtain ⟨s0, s1, s2, s3, s4, s5⟩ := sup_cells S1.out))
  refine (rnum_c 8 a5 AB.out.2.2.2.2.2.1 (by decide)).mono ?_
  rintro e w12 ⟨v0, rfl, hr0, hb⟩
  obtain ⟨An, cn, hv0, hn0⟩ := own_of hr0
  subst hv0
  have NB := Aside0.mk hn0.C
  replace RB := Aside0.mk (Kd.R_below RB.out hb)
  replace HB := Aside0.mk (HB.out.trans (hb.mono HB.out.size))
  replace S1 := Aside0.mk ((HB.out.block _ (blk_lt SA.out)).trans SA.out)
  clear hr0 hb hn0 s0 s1 s2 s3 s4 s5 hw5
  go_wp2_with (first | (at_builtin; (refine Kd.R_append_rows (Kd.int .u8) (w0 := w1) w1.heap.size rfl (.tmp 47) (.tmp 51) 34 5 (.int .u8 0) 1 rfl Try.underlying34 info5 rfl (by decide) (by decide) (.slice Ac x5.length cc) (x5) (numL 8 a5.toNat) _ _ _ (fun _ => True) (fun _ => False) rfl rfl ?aO ?aR (fun _ _ h => h) (fun _ h => h.elim) ?aF ?aB ?aS ?aL ?_); (case aO => exact RB.out); (case aR => (exact NB.out)); (case aF => exact (fun _ _ => trivial)); (case aB => exact HB.out); (case aS => exact HB.out.size); (case aL => (exact ap_le Lx5.out (numL_length _ _))); intro v1 w13 ho hbn hg hat; rw [Xx6.out] at ho; clear RB HB S1; have RB := Aside0.mk ho; have HB := Aside0.mk hbn; have S1 := Aside0.mk ((HB.out.block _ (blk_lt SA.out)).trans SA.out); obtain ⟨Ac, cc, hv1, hq⟩ := own_of ho; subst hv1; clear ho hbn hg hat hq NB; obtain ⟨s0, s1, s2, s3, s4, s5⟩ := sup_cells S1.out))
  go_loopg [5] 20 (fun q v5 w' => ∃ (j : Nat) (y : List Int) (A : Option Addr) (c : Nat), v5 = .slice A y.length c ∧ Aside0 (j + q = 20) ∧ Aside0 (y = x6 ++ List.replicate j 0) ∧ Aside0 (Kd.R (Kd.int .u8) 5 w' w1.heap.size (fun _ => True) (.slice A y.length c) y) ∧ Aside0 (Below w1.heap.size w1 w'))
  case atStart => exact ⟨0, x6, _, _, rfl, ⟨rfl⟩, ⟨by simp⟩, RB, HB⟩
  case round =>
    clear RB HB S1 s0 s1 s2 s3 s4 s5
    obtain ⟨j, y, A, c, rfl, HJ, HY, RB, HB⟩ := hrel
    have LY := Aside0.mk (show y.length = 40 + j by rw [HY.out, List.length_append, Lx6.out, List.length_replicate])
    by_cases hlt : j < 20
    case pos =>
      have hgd : decide ((y.length : Int) < 60) = true := lt_t LY.out hlt
      have hgd2 : decide (y.length < 60) = true := lt_t2 LY.out hlt
      have NB := Aside0.mk (show Kd.C (Kd.int .u8) (wr.alloc (.cells #[.int .u8 0] 5)) (some ⟨wr.heap.size, 0, none⟩) 1 [0] from blk_C (enc := Value.int .u8) (h1 := fun _ => rfl) (cur := encs (Value.int .u8) [0]) (heap_new wr _) rfl (by decide))
      replace HB := Aside0.mk (HB.out.alloc HB.out.size (.cells #[.int .u8 0] 5))
      replace RB := Aside0.mk (Kd.R_alloc RB.out (.cells #[.int .u8 0] 5))
      have Y2 := Aside0.mk (rep_snoc HY.out)
      clear hlt
      go_wp2_with (first | (at_builtin; (refine Kd.R_append_rows (Kd.int .u8) (w0 := w1) w1.heap.size rfl (.tmp 56) (.tmp 57) 34 5 (.int .u8 0) 1 rfl Try.underlying34 info5 rfl (by decide) (by decide) (.slice A y.length c) y [0] _ _ _ (fun _ => True) (fun _ => False) rfl rfl ?aO ?aR (fun _ _ h => h) (fun _ h => h.elim) ?aF ?aB ?aS ?aL ?_); (case aO => exact RB.out); (case aR => (exact NB.out)); (case aF => exact (fun _ _ => trivial)); (case aB => exact HB.out); (case aS => exact HB.out.size); (case aL => (exact lt_le hgd2 (by decide))); intro v1 wz ho hbn hg hat; clear RB HB; have HB := Aside0.mk hbn; obtain ⟨Ac, cc, hv1, hq⟩ := own_of ho; subst hv1; have RB := Aside0.mk ho; clear ho hbn hg hat hq NB))
      go_roundg (gk - 1)
      case measure => exact mea HJ.out hgd2 LY.out
      case rel => exact ⟨j + 1, y ++ [0], _, _, by simp, step_j HJ.out hgd2 LY.out, Y2, RB, HB⟩
    have hj : j = 20 := by have := HJ.out; omega
    subst hj
    have hge : decide ((y.length : Int) < 60) = false := decide_eq_false (by rw [LY.out]; decide)
    have hge2 : decide (y.length < 60) = false := decide_eq_false (by rw [LY.out]; decide)
    clear hlt
    have CY := Aside0.mk (own_of RB.out)
    obtain ⟨Ay, cy, hvy, hoy⟩ := own_of RB.out
    cases hvy
    have OY := Aside0.mk hoy
    clear hoy CY
    have YB := Aside0.mk (show Bytes y by rw [HY.out, HX.out]; exact supS_bytes _ _ _ _ _ _)
    have YS := Aside0.mk (show y = supS a0 a1 a2 a3 a4 a5 by rw [HY.out, HX.out]; rfl)
    go_wp2_with fail
    refine (rsum_c OY.out.C OY.out.cap YB.out (by rw [LY.out]; decide)).mono ?_
    rintro e wa ⟨rfl, hb⟩
    replace RB := Aside0.mk (Kd.R_below RB.out hb)
    replace HB := Aside0.mk (HB.out.trans (hb.mono HB.out.size))
    have CS := Aside0.mk (crcSum_lt y YB.out)
    obtain ⟨sm, hsm⟩ : ∃ s, s = crcSum y := ⟨_, rfl⟩
    rw [← hsm] at CS
    rw [← hsm]
    have SM := Aside0.mk hsm
    have hws : IntKind.u64.wrap (sm : Int) = (sm : Int) := u64w _ (by omega) (by have := CS.out; omega)
    clear hb hge hge2 hsm
    go_wp2_with fail
    refine (rnum_c 4 (sm : Int) (by omega) (by decide)).mono ?_
    rintro e wb ⟨v0, rfl, hr0, hb⟩
    obtain ⟨An, cn, hv0, hn0⟩ := own_of hr0
    subst hv0
    have NB := Aside0.mk hn0.C
    replace RB := Aside0.mk (Kd.R_below RB.out hb)
    replace HB := Aside0.mk (HB.out.trans (hb.mono HB.out.size))
    obtain ⟨z, hz⟩ : ∃ z, z = y ++ numL 4 (sm : Int).toNat := ⟨_, rfl⟩
    have XZ := Aside0.mk hz.symm
    have LZ := Aside0.mk (show z.length = 64 by rw [hz, List.length_append, LY.out, numL_length])
    have ZS := Aside0.mk (show z = sealA (supS a0 a1 a2 a3 a4 a5) by rw [hz, SM.out, YS.out, Int.toNat_natCast]; rfl)
    clear hr0 hb hn0 hws hz
    go_wp2_with (first | (at_builtin; (refine Kd.R_append_rows (Kd.int .u8) (w0 := w1) w1.heap.size rfl (.tmp 59) (.tmp 63) 34 5 (.int .u8 0) 1 rfl Try.underlying34 info5 rfl (by decide) (by decide) (.slice A y.length c) y (numL 4 (sm : Int).toNat) _ _ _ (fun _ => True) (fun _ => False) rfl rfl ?aO ?aR (fun _ _ h => h) (fun _ h => h.elim) ?aF ?aB ?aS ?aL ?_); (case aO => exact RB.out); (case aR => (exact NB.out)); (case aF => exact (fun _ _ => trivial)); (case aB => exact HB.out); (case aS => exact HB.out.size); (case aL => (exact ap_le LY.out (numL_length _ _))); intro v1 wq ho hbn hg hat; rw [XZ.out] at ho; clear RB HB; have HB := Aside0.mk hbn; obtain ⟨Ac, cc, hv1, hq⟩ := own_of ho; subst hv1; have RB := Aside0.mk ho; clear ho hbn hg hat hq NB))
    go_loopg [5] 192 (fun q v5 w' => ∃ (j : Nat) (y : List Int) (A : Option Addr) (c : Nat), v5 = .slice A y.length c ∧ Aside0 (j + q = 192) ∧ Aside0 (y = z ++ List.replicate j 0) ∧ Aside0 (Kd.R (Kd.int .u8) 5 w' w1.heap.size (fun _ => True) (.slice A y.length c) y) ∧ Aside0 (Below w1.heap.size w1 w'))
    case atStart => exact ⟨0, z, _, _, rfl, ⟨rfl⟩, ⟨by simp⟩, RB, HB⟩
    case round =>
      clear RB HB
      obtain ⟨j, u, A2, c2, rfl, HJ, HQ, RB, HB⟩ := hrel
      have LQ := Aside0.mk (show u.length = 64 + j by rw [HQ.out, List.length_append, LZ.out, List.length_replicate])
      by_cases hlt : j < 192
      case pos =>
        have hgd : decide ((u.length : Int) < 256) = true := lt_t LQ.out hlt
        have hgd2 : decide (u.length < 256) = true := lt_t2 LQ.out hlt
        have NB := Aside0.mk (show Kd.C (Kd.int .u8) (wr.alloc (.cells #[.int .u8 0] 5)) (some ⟨wr.heap.size, 0, none⟩) 1 [0] from blk_C (enc := Value.int .u8) (h1 := fun _ => rfl) (cur := encs (Value.int .u8) [0]) (heap_new wr _) rfl (by decide))
        replace HB := Aside0.mk (HB.out.alloc HB.out.size (.cells #[.int .u8 0] 5))
        replace RB := Aside0.mk (Kd.R_alloc RB.out (.cells #[.int .u8 0] 5))
        have Y2 := Aside0.mk (rep_snoc HQ.out)
        clear hlt
        go_wp2_with (first | (at_builtin; (refine Kd.R_append_rows (Kd.int .u8) (w0 := w1) w1.heap.size rfl (.tmp 68) (.tmp 69) 34 5 (.int .u8 0) 1 rfl Try.underlying34 info5 rfl (by decide) (by decide) (.slice A2 u.length c2) u [0] _ _ _ (fun _ => True) (fun _ => False) rfl rfl ?aO ?aR (fun _ _ h => h) (fun _ h => h.elim) ?aF ?aB ?aS ?aL ?_); (case aO => exact RB.out); (case aR => (exact NB.out)); (case aF => exact (fun _ _ => trivial)); (case aB => exact HB.out); (case aS => exact HB.out.size); (case aL => (exact lt_le hgd2 (by decide))); intro v1 wz ho hbn hg hat; clear RB HB; have HB := Aside0.mk hbn; obtain ⟨Ac, cc, hv1, hq⟩ := own_of ho; subst hv1; have RB := Aside0.mk ho; clear ho hbn hg hat hq NB))
        go_roundg (gk - 1)
        case measure => exact mea HJ.out hgd2 LQ.out
        case rel => exact ⟨j + 1, u ++ [0], _, _, by simp, step_j HJ.out hgd2 LQ.out, Y2, RB, HB⟩
      have hj : j = 192 := by have := HJ.out; omega
      subst hj
      have hge : decide ((u.length : Int) < 256) = false := decide_eq_false (by rw [LQ.out]; decide)
      have hge2 : decide (u.length < 256) = false := decide_eq_false (by rw [LQ.out]; decide)
      clear hlt
      obtain ⟨Ay2, cy2, hvy, hoy⟩ := own_of RB.out
      cases hvy
      have OF := Aside0.mk (own_lower hoy K1.out.size)
      have KF := Aside0.mk (K1.out.trans (HB.out.mono K1.out.size))
      have US := Aside0.mk (show u = supB a0 a1 a2 a3 a4 a5 by rw [HQ.out, ZS.out]; rfl)
      have hul : u.length = 256 := LQ.out
      clear hoy
      go_wp2_with fail
      go_ret2
      refine ⟨A2, c2, ?_, ?_, KF.out⟩
      · show Ending.returned (.tuple #[.slice A2 u.length c2, .int .i64 0]) = _
        rw [hul]
      rw [← US.out]
      exact OF.out

set_option maxRecDepth 100000 in
set_option maxHeartbeats 8000000 in
theorem rsbytes_no (w : World) (a0 a1 a2 a3 a4 a5 ck : Int) (hck : atticref05_Check.f 1 a0 a1 a2 a3 a4 a5 = some ck) (h0 : ck ≠ 0) : Calls Try.prog 18 #[.agg #[.int .i64 a0, .int .i64 a1, .int .i64 a2, .int .i64 a3, .int .i64 a4, .int .i64 a5]] w fun e w' => e = .returned (.tuple #[.slice none 0 0, .int .i64 ck]) ∧ Below w.heap.size w w' := by
  have hu25 := Try.underlying25
  have hu23 := Try.underlying23
  have CK := Aside0.mk hck
  have K0 := Aside0.mk ((Below.refl w.heap.size w).alloc (Nat.le_refl _) (.cells (supCs a0 a1 a2 a3 a4 a5) 25))
  have hne : (ck != 0) = true := by simpa using h0
  clear hck h0
  go_enter Try.func18, Try.ntmps18
  go_wp2_with fail
  refine (atticref05_Check.calls 1 a0 a1 a2 a3 a4 a5 ck _ CK.out).mono ?_
  rintro e w1 ⟨rfl, hb1⟩
  have K1 := Aside0.mk (K0.out.trans (hb1.mono K0.out.size))
  clear hb1
  go_wp2_with fail
  go_ret2
  exact ⟨rfl, K1.out⟩
end Go.Proofs.Ytojolpamgijcbaa.Pure
