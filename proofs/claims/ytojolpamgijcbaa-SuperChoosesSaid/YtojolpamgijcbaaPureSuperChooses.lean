/- Which super counts, of any two blocks. -/
import Derived.Test.YtojolpamgijcbaaBlk
import Derived.Deep.RegionHeld3
namespace Go.Proofs.Ytojolpamgijcbaa.Pure
open Go.RowKit Go.Proofs.Ytojolpamgijcbaa Go.Proofs.Ytojolpamgijcbaa.PAll Go.Proofs.Ytojolpamgijcbaa.PGt Go.Proofs.Ytojolpamgijcbaa.Mem Go.Proofs.YtojolpamgijcbaaW.PrintWords Go.Proofs.YtojolpamgijcbaaW.PrintLast Go.Proofs.YtojolpamgijcbaaW.PrintMore
set_option linter.unusedVariables false
set_option linter.unusedSimpArgs false
attribute [local go_sem high] eqS25
set_option maxRecDepth 100000 in
set_option maxHeartbeats 16000000 in
theorem SuperChooses (w : World) (a0 a1 a2 a3 a4 a5 b0 b1 b2 b3 b4 b5 : Int) (tb : Bool) (ta ty : Int) (D : Option Addr) (cd : Nat) (lb : List Int) (hta : 0 ≤ ta ∧ ta < 256) (hty : 0 ≤ ty ∧ ty < 256) (hC : Kd.C (Kd.int .u8) w D lb.length lb) (hcd : lb.length ≤ cd) (hlb : Bytes lb) (hll : lb.length ≤ 140737488351232) :
    Calls Try.prog 6 #[.agg (twCs a0 a1 a2 a3 a4 a5 b0 b1 b2 b3 b4 b5 tb ta ty D lb.length cd)] w fun e w' => e = .returned (.bool true) ∧ Below w.heap.size w w' := by
  have hu25 := Try.underlying25
  have hu23 := Try.underlying23
  have hu41 := Try.underlying41
  have KK := Aside0.mk ((Below.refl w.heap.size w).alloc (Nat.le_refl _) (.cells (twCs a0 a1 a2 a3 a4 a5 b0 b1 b2 b3 b4 b5 tb ta ty D lb.length cd) 41))
  have T1 := Aside0.mk (heap_new w (.cells (twCs a0 a1 a2 a3 a4 a5 b0 b1 b2 b3 b4 b5 tb ta ty D lb.length cd) 41))
  have hbl := blocks_c (w.alloc (.cells (twCs a0 a1 a2 a3 a4 a5 b0 b1 b2 b3 b4 b5 tb ta ty D lb.length cd) 41)) a0 a1 a2 a3 a4 a5 b0 b1 b2 b3 b4 b5 tb ta ty D cd lb hta hty (Kd.C_below hC KK.out) hcd hlb hll
  have BL := Aside0.mk hbl
  clear hta hty hC hcd hlb hll hbl
  go_enter Try.func6, Try.ntmps6
  go_wp2_with fail
  refine BL.out.mono ?_
  rintro e w1 ⟨U, cu, V, cv, lu, lv, rfl, hU, hcu, hbu, hlu, hV, hcv, hbv, hlv, hb⟩
  replace KK := Aside0.mk (KK.out.trans (hb.mono KK.out.size))
  obtain ⟨r0, r1, r2, r3, r4, r5, er, hr⟩ := both_c lu lv hbu hbv hlu hlv
  obtain ⟨s0, s1, s2, s3, s4, s5, es, hs⟩ := both_c lv lu hbv hbu hlv hlu
  have CU := Aside0.mk hU
  have CV := Aside0.mk hV
  have H1 := Aside0.mk (fun (w : World) (h : Kd.C (Kd.int .u8) w U lu.length lu) (h2 : Kd.C (Kd.int .u8) w V lv.length lv) => hr h hcu h2 hcv)
  have H2 := Aside0.mk (fun (w : World) (h : Kd.C (Kd.int .u8) w U lu.length lu) (h2 : Kd.C (Kd.int .u8) w V lv.length lv) => hs h2 hcv h hcu)
  clear hU hcu hbu hlu hV hcv hbv hlv hb hr hs T1 BL
  go_wp2_with fail
  refine ((H1.out _ CU.out CV.out).1).mono ?_
  rintro e w2 ⟨rfl, hb⟩
  obtain ⟨g5, hg⟩ : ∃ g, g = w2.heap.size := ⟨_, rfl⟩
  have hbn := hb.alloc hb.size (.cells (supCs r0 r1 r2 r3 r4 r5) 25)
  replace KK := Aside0.mk (KK.out.trans (hbn.mono KK.out.size))
  replace CU := Aside0.mk (Kd.C_below CU.out hbn)
  replace CV := Aside0.mk (Kd.C_below CV.out hbn)
  have B5 := Aside0.mk (show (w2.alloc (.cells (supCs r0 r1 r2 r3 r4 r5) 25)).heap[g5]? = some (.cells (supCs r0 r1 r2 r3 r4 r5) 25 (0, 0)) from by rw [hg]; exact heap_new w2 _)
  clear hb hbn
  go_wp2_with fail
  rw [← hg]
  clear hg
  refine ((H1.out _ CU.out CV.out).2).mono ?_
  rintro e w3 ⟨rfl, hb⟩
  obtain ⟨g7, hg⟩ : ∃ g, g = w3.heap.size := ⟨_, rfl⟩
  have hbn := hb.alloc hb.size (.cells (supCs r0 r1 r2 r3 r4 r5) 25)
  replace KK := Aside0.mk (KK.out.trans (hbn.mono KK.out.size))
  replace CU := Aside0.mk (Kd.C_below CU.out hbn)
  replace CV := Aside0.mk (Kd.C_below CV.out hbn)
  replace B5 := Aside0.mk ((hbn.block _ (blk_lt B5.out)).trans B5.out)
  have B7 := Aside0.mk (show (w3.alloc (.cells (supCs r0 r1 r2 r3 r4 r5) 25)).heap[g7]? = some (.cells (supCs r0 r1 r2 r3 r4 r5) 25 (0, 0)) from by rw [hg]; exact heap_new w3 _)
  clear hb hbn
  go_wp2_with fail
  rw [← hg]
  clear hg
  refine ((H2.out _ CU.out CV.out).1).mono ?_
  rintro e w4 ⟨rfl, hb⟩
  obtain ⟨g9, hg⟩ : ∃ g, g = w4.heap.size := ⟨_, rfl⟩
  have hbn := hb.alloc hb.size (.cells (supCs s0 s1 s2 s3 s4 s5) 25)
  replace KK := Aside0.mk (KK.out.trans (hbn.mono KK.out.size))
  replace CU := Aside0.mk (Kd.C_below CU.out hbn)
  replace CV := Aside0.mk (Kd.C_below CV.out hbn)
  replace B5 := Aside0.mk ((hbn.block _ (blk_lt B5.out)).trans B5.out)
  replace B7 := Aside0.mk ((hbn.block _ (blk_lt B7.out)).trans B7.out)
  have B9 := Aside0.mk (show (w4.alloc (.cells (supCs s0 s1 s2 s3 s4 s5) 25)).heap[g9]? = some (.cells (supCs s0 s1 s2 s3 s4 s5) 25 (0, 0)) from by rw [hg]; exact heap_new w4 _)
  clear hb hbn
  go_wp2_with fail
  rw [← hg]
  clear hg
  refine ((H2.out _ CU.out CV.out).2).mono ?_
  rintro e w5 ⟨rfl, hb⟩
  obtain ⟨g11, hg⟩ : ∃ g, g = w5.heap.size := ⟨_, rfl⟩
  have hbn := hb.alloc hb.size (.cells (supCs s0 s1 s2 s3 s4 s5) 25)
  replace KK := Aside0.mk (KK.out.trans (hbn.mono KK.out.size))
  replace CU := Aside0.mk (Kd.C_below CU.out hbn)
  replace CV := Aside0.mk (Kd.C_below CV.out hbn)
  replace B5 := Aside0.mk ((hbn.block _ (blk_lt B5.out)).trans B5.out)
  replace B7 := Aside0.mk ((hbn.block _ (blk_lt B7.out)).trans B7.out)
  replace B9 := Aside0.mk ((hbn.block _ (blk_lt B9.out)).trans B9.out)
  have B11 := Aside0.mk (show (w5.alloc (.cells (supCs s0 s1 s2 s3 s4 s5) 25)).heap[g11]? = some (.cells (supCs s0 s1 s2 s3 s4 s5) 25 (0, 0)) from by rw [hg]; exact heap_new w5 _)
  clear hb hbn
  go_wp2_with fail
  rw [← hg]
  clear hg
  refine (live_c _).mono ?_
  rintro e w6 ⟨rfl, hb⟩
  replace KK := Aside0.mk (KK.out.trans (hb.mono KK.out.size))
  replace B5 := Aside0.mk ((hb.block _ (blk_lt B5.out)).trans B5.out)
  replace B7 := Aside0.mk ((hb.block _ (blk_lt B7.out)).trans B7.out)
  replace B9 := Aside0.mk ((hb.block _ (blk_lt B9.out)).trans B9.out)
  replace B11 := Aside0.mk ((hb.block _ (blk_lt B11.out)).trans B11.out)
  clear hb H1 H2
  obtain ⟨m0, m1, m2, m3, m4, m5⟩ := sup_cells B5.out
  obtain ⟨n0, n1, n2, n3, n4, n5⟩ := sup_cells B7.out
  obtain ⟨p0, p1, p2, p3, p4, p5⟩ := sup_cells B9.out
  obtain ⟨q0, q1, q2, q3, q4, q5⟩ := sup_cells B11.out
  go_wp2_with fail
  go_ret
  exact ⟨by simp, KK.out⟩
theorem SuperChoosesR (w : World) (a0 : Int) (_ : (Lit.int .i64 a0).wf = true) (a1 : Int) (_ : (Lit.int .i64 a1).wf = true) (a2 : Int) (_ : (Lit.int .i64 a2).wf = true) (a3 : Int) (_ : (Lit.int .i64 a3).wf = true) (a4 : Int) (_ : (Lit.int .i64 a4).wf = true) (a5 : Int) (_ : (Lit.int .i64 a5).wf = true) (b0 : Int) (_ : (Lit.int .i64 b0).wf = true) (b1 : Int) (_ : (Lit.int .i64 b1).wf = true) (b2 : Int) (_ : (Lit.int .i64 b2).wf = true) (b3 : Int) (_ : (Lit.int .i64 b3).wf = true) (b4 : Int) (_ : (Lit.int .i64 b4).wf = true) (b5 : Int) (_ : (Lit.int .i64 b5).wf = true) (tb : Bool) (ta : Int) (hta : (Lit.int .u8 ta).wf = true) (ty : Int) (hty : (Lit.int .u8 ty).wf = true) (D : Option Addr) (cd : Nat) (lb : List Int) (hwl : ∀ x ∈ lb, (Lit.int .u8 x).wf = true) (hzl : lb.length * 1 ≤ 140737488351232) (hCl : Kd.C (Kd.int .u8) w D lb.length lb) (hcl : lb.length ≤ cd) :
    Calls Try.prog 6 #[.agg #[.int .i64 a0, .int .i64 a1, .int .i64 a2, .int .i64 a3, .int .i64 a4, .int .i64 a5, .int .i64 b0, .int .i64 b1, .int .i64 b2, .int .i64 b3, .int .i64 b4, .int .i64 b5, .bool tb, .int .u8 ta, .int .u8 ty, .slice D lb.length cd]] w fun e w' => e = .returned (.bool true) ∧ Below w.heap.size w w' :=
  SuperChooses w a0 a1 a2 a3 a4 a5 b0 b1 b2 b3 b4 b5 tb ta ty D cd lb (bytes_wf (l := [ta]) (fun x hx => by rw [List.mem_singleton] at hx; rw [hx]; exact hta) ta (by simp)) (bytes_wf (l := [ty]) (fun x hx => by rw [List.mem_singleton] at hx; rw [hx]; exact hty) ty (by simp)) hCl hcl (bytes_wf hwl) (by omega)
end Go.Proofs.Ytojolpamgijcbaa.Pure
