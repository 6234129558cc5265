/- Any super's block, and what any block says. -/
import Derived.Test.YtojolpamgijcbaaSL
import Derived.Deep.RegionHeld3
namespace Go.Proofs.Ytojolpamgijcbaa.Pure
open Go.RowKit Go.Proofs.Ytojolpamgijcbaa Go.Proofs.Ytojolpamgijcbaa.PAll Go.Proofs.Ytojolpamgijcbaa.PGt Go.Proofs.Ytojolpamgijcbaa.Mem Go.Proofs.YtojolpamgijcbaaW.PrintWords Go.Proofs.YtojolpamgijcbaaW.PrintLast Go.Proofs.YtojolpamgijcbaaW.PrintMore
set_option linter.unusedVariables false
set_option linter.unusedSimpArgs false
attribute [local go_sem high] eqS25
set_option maxRecDepth 100000 in
set_option maxHeartbeats 8000000 in
theorem SuperForms (w : World) (a0 a1 a2 a3 a4 a5 : Int) (A : Option Addr) (ca : Nat) (l : List Int) (hl : Bytes l) (hla : l.length ≤ 140737488351232) (hC : Kd.C (Kd.int .u8) w A l.length l) (hca : l.length ≤ ca) :
    Calls Try.prog 4 #[.agg #[.int .i64 a0, .int .i64 a1, .int .i64 a2, .int .i64 a3, .int .i64 a4, .int .i64 a5], .slice A l.length ca] w fun e w' => e = .returned (.bool true) ∧ Below w.heap.size w w' := by
  have hu25 := Try.underlying25
  have hu23 := Try.underlying23
  obtain ⟨ck, hc1, hc2⟩ := chk_eq 1 a0 a1 a2 a3 a4 a5 (by decide)
  obtain ⟨y0, y1, y2, y3, y4, y5, ey, hps, hrd⟩ := parse_all l hl hla
  have CK := Aside0.mk hc1
  have CK2 := Aside0.mk hc2
  have PP := Aside0.mk hps
  have RD := Aside0.mk hrd
  have LB := Aside0.mk hl
  have LA := Aside0.mk hla
  have C0 := Aside0.mk hC
  have HC := Aside0.mk hca
  have K0 := Aside0.mk ((Below.refl w.heap.size w).alloc (Nat.le_refl _) (.cells (supCs a0 a1 a2 a3 a4 a5) 25))
  have S0 := Aside0.mk (heap_new w (.cells (supCs a0 a1 a2 a3 a4 a5) 25))
  clear hc1 hc2 hps hrd hl hla hC hca
  have KK := K0
  go_enter Try.func4, Try.ntmps4
  go_wp2_with fail
  refine (sbytes_c CK.out).mono ?_
  rintro e w1 ⟨X, cx, rfl, hX, hb⟩
  replace KK := Aside0.mk (KK.out.trans (hb.mono KK.out.size))
  replace S0 := Aside0.mk ((hb.block _ (blk_lt S0.out)).trans S0.out)
  have XX := Aside0.mk hX
  clear hb hX
  obtain ⟨s0, s1, s2, s3, s4, s5⟩ := sup_cells S0.out
  go_wp2_with fail
  clear s0 s1 s2 s3 s4 s5
  refine (rsbytes_c CK.out CK2.out).mono ?_
  rintro e w2 ⟨Y, cy, rfl, hY, hb⟩
  replace KK := Aside0.mk (KK.out.trans (hb.mono KK.out.size))
  replace XX := Aside0.mk (own_below XX.out hb)
  have YY := Aside0.mk hY
  have C2 := Aside0.mk (Kd.C_below C0.out KK.out)
  clear hb hY S0
  go_wp2_with fail
  refine (RD.out.code C2.out HC.out).mono ?_
  rintro e w3 ⟨rfl, hb⟩
  obtain ⟨gp, hgp⟩ : ∃ g, g = w3.heap.size := ⟨_, rfl⟩
  have hbn := hb.alloc hb.size (.cells (supCs y0 y1 y2 y3 y4 y5) 25)
  replace KK := Aside0.mk (KK.out.trans (hbn.mono KK.out.size))
  replace XX := Aside0.mk (own_below XX.out hbn)
  replace YY := Aside0.mk (own_below YY.out hbn)
  have P3 := Aside0.mk (show (w3.alloc (.cells (supCs y0 y1 y2 y3 y4 y5) 25)).heap[gp]? = some (.cells (supCs y0 y1 y2 y3 y4 y5) 25 (0, 0)) from by rw [hgp]; exact heap_new w3 _)
  have C3 := Aside0.mk (Kd.C_below C0.out KK.out)
  clear hb hbn C2
  go_wp2_with fail
  rw [← hgp]
  clear hgp
  refine (RD.out.ref C3.out HC.out).mono ?_
  rintro e w4 ⟨rfl, hb⟩
  obtain ⟨gq, hgq⟩ : ∃ g, g = w4.heap.size := ⟨_, rfl⟩
  have hbn := hb.alloc hb.size (.cells (supCs y0 y1 y2 y3 y4 y5) 25)
  replace KK := Aside0.mk (KK.out.trans (hbn.mono KK.out.size))
  replace P3 := Aside0.mk ((hbn.block _ (blk_lt P3.out)).trans P3.out)
  replace XX := Aside0.mk (own_below XX.out hbn)
  replace YY := Aside0.mk (own_below YY.out hbn)
  have Q3 := Aside0.mk (show (w4.alloc (.cells (supCs y0 y1 y2 y3 y4 y5) 25)).heap[gq]? = some (.cells (supCs y0 y1 y2 y3 y4 y5) 25 (0, 0)) from by rw [hgq]; exact heap_new w4 _)
  clear hb hbn C3
  go_wp2_with fail
  rw [← hgq]
  clear hgq
  refine (live_c _).mono ?_
  rintro e w5 ⟨rfl, hb⟩
  replace KK := Aside0.mk (KK.out.trans (hb.mono KK.out.size))
  replace P3 := Aside0.mk ((hb.block _ (blk_lt P3.out)).trans P3.out)
  replace Q3 := Aside0.mk ((hb.block _ (blk_lt Q3.out)).trans Q3.out)
  replace XX := Aside0.mk (own_below XX.out hb)
  replace YY := Aside0.mk (own_below YY.out hb)
  clear hb
  go_wp2_with fail
  refine (eqself_c XX.out.C XX.out.cap YY.out.C YY.out.cap).mono ?_
  rintro e w6 ⟨rfl, hb⟩
  replace KK := Aside0.mk (KK.out.trans (hb.mono KK.out.size))
  replace P3 := Aside0.mk ((hb.block _ (blk_lt P3.out)).trans P3.out)
  replace Q3 := Aside0.mk ((hb.block _ (blk_lt Q3.out)).trans Q3.out)
  clear hb
  obtain ⟨p0, p1, p2, p3, p4, p5⟩ := sup_cells P3.out
  obtain ⟨q0, q1, q2, q3, q4, q5⟩ := sup_cells Q3.out
  go_wp2_with fail
  go_ret
  exact ⟨by simp, KK.out⟩
theorem SuperFormsR (w : World) (a0 : Int) (_ : (Lit.int .i64 a0).wf = true) (a1 : Int) (_ : (Lit.int .i64 a1).wf = true) (a2 : Int) (_ : (Lit.int .i64 a2).wf = true) (a3 : Int) (_ : (Lit.int .i64 a3).wf = true) (a4 : Int) (_ : (Lit.int .i64 a4).wf = true) (a5 : Int) (_ : (Lit.int .i64 a5).wf = true) (A : Option Addr) (ca : Nat) (l : List Int) (hwl : ∀ x ∈ l, (Lit.int .u8 x).wf = true) (hzl : l.length * 1 ≤ 140737488351232) (hCl : Kd.C (Kd.int .u8) w A l.length l) (hcl : l.length ≤ ca) :
    Calls Try.prog 4 #[.agg #[.int .i64 a0, .int .i64 a1, .int .i64 a2, .int .i64 a3, .int .i64 a4, .int .i64 a5], .slice A l.length ca] w fun e w' => e = .returned (.bool true) ∧ Below w.heap.size w w' :=
  SuperForms w a0 a1 a2 a3 a4 a5 A ca l (bytes_wf hwl) (by omega) hCl hcl
end Go.Proofs.Ytojolpamgijcbaa.Pure
