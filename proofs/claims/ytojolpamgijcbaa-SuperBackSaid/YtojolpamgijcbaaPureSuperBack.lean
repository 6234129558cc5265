/- A super is read as it was; what is read has just these bytes. -/
import Derived.Test.YtojolpamgijcbaaSL
import Derived.Deep.RegionHeld3
namespace Go.Proofs.Ytojolpamgijcbaa.Pure
open Go.RowKit Go.Proofs.Ytojolpamgijcbaa Go.Proofs.Ytojolpamgijcbaa.PAll Go.Proofs.Ytojolpamgijcbaa.PGt Go.Proofs.Ytojolpamgijcbaa.Mem Go.Proofs.YtojolpamgijcbaaW.PrintWords Go.Proofs.YtojolpamgijcbaaW.PrintLast Go.Proofs.YtojolpamgijcbaaW.PrintMore
set_option linter.unusedVariables false
set_option linter.unusedSimpArgs false
attribute [local go_sem high] eqS25
set_option maxRecDepth 100000 in
set_option maxHeartbeats 8000000 in
theorem SuperBack (w : World) (a0 a1 a2 a3 a4 a5 : Int) (A : Option Addr) (ca : Nat) (l : List Int) (hl : Bytes l) (hla : l.length ≤ 140737488351232) (hC : Kd.C (Kd.int .u8) w A l.length l) (hca : l.length ≤ ca) :
    Calls Try.prog 5 #[.agg #[.int .i64 a0, .int .i64 a1, .int .i64 a2, .int .i64 a3, .int .i64 a4, .int .i64 a5], .slice A l.length ca] w fun e w' => e = .returned (.bool true) ∧ Below w.heap.size w w' := by
  have hu25 := Try.underlying25
  have hu23 := Try.underlying23
  obtain ⟨ck, hc1, hc2⟩ := chk_eq 1 a0 a1 a2 a3 a4 a5 (by decide)
  obtain ⟨y0, y1, y2, y3, y4, y5, ey, hps, hrd⟩ := parse_all l hl hla
  have CK := Aside0.mk hc1
  have CK2 := Aside0.mk hc2
  have PP := Aside0.mk hps
  have RD := Aside0.mk hrd
  have LB := Aside0.mk hl
  have LA := Aside0.mk hla
  have C0 := Aside0.mk hC
  have HC := Aside0.mk hca
  have K0 := Aside0.mk ((Below.refl w.heap.size w).alloc (Nat.le_refl _) (.cells (supCs a0 a1 a2 a3 a4 a5) 25))
  have S0 := Aside0.mk (heap_new w (.cells (supCs a0 a1 a2 a3 a4 a5) 25))
  clear hc1 hc2 hps hrd hl hla hC hca
  have KK := K0
  obtain ⟨z0, z1, z2, z3, z4, z5, ez, hpz, hrz⟩ := parse_all (supR ck a0 a1 a2 a3 a4 a5) (supR_bytes _ _ _ _ _ _ _) (by unfold supR; split; rw [supB_length]; decide; decide)
  have PZ := Aside0.mk hpz
  have RZ := Aside0.mk hrz
  clear hpz hrz
  go_enter Try.func5, Try.ntmps5
  go_wp2_with fail
  refine (sbytes_c CK.out).mono ?_
  rintro e w1 ⟨X, cx, rfl, hX, hb⟩
  replace KK := Aside0.mk (KK.out.trans (hb.mono KK.out.size))
  replace S0 := Aside0.mk ((hb.block _ (blk_lt S0.out)).trans S0.out)
  have XX := Aside0.mk hX
  clear hb hX
  go_wp2_with fail
  refine (live_c _).mono ?_
  rintro e w2 ⟨rfl, hb⟩
  replace KK := Aside0.mk (KK.out.trans (hb.mono KK.out.size))
  replace S0 := Aside0.mk ((hb.block _ (blk_lt S0.out)).trans S0.out)
  replace XX := Aside0.mk (own_below XX.out hb)
  clear hb
  obtain ⟨s0, s1, s2, s3, s4, s5⟩ := sup_cells S0.out
  go_wp2_with fail
  refine (super_Check.calls a0 a1 a2 a3 a4 a5 ck _ CK.out).mono ?_
  rintro e w3 ⟨rfl, hb⟩
  replace KK := Aside0.mk (KK.out.trans (hb.mono KK.out.size))
  replace S0 := Aside0.mk ((hb.block _ (blk_lt S0.out)).trans S0.out)
  replace XX := Aside0.mk (own_below XX.out hb)
  clear hb s0 s1 s2 s3 s4 s5
  by_cases h0 : ck = 0
  case pos =>
    subst h0
    have hx : supR 0 a0 a1 a2 a3 a4 a5 = supB a0 a1 a2 a3 a4 a5 := if_pos rfl
    have HX := Aside0.mk hx
    clear hx
    obtain ⟨e0, e1, e2, e3, e4, e5, e6⟩ : z0 = a0 ∧ z1 = a1 ∧ z2 = a2 ∧ z3 = a3 ∧ z4 = a4 ∧ z5 = a5 ∧ ez = 0 := by
      rcases PZ.out with ⟨h1, h2, h3⟩ | ⟨_, _, _, _, _, _, _, hn⟩
      · obtain ⟨b0, b1, b2, b3, b4, b5⟩ := supB_get h2
        obtain ⟨d0, d1, d2, d3, d4, d5⟩ := supB_get CK.out
        rw [h3, HX.out] at b0 b1 b2 b3 b4 b5
        exact ⟨b0.symm.trans d0, b1.symm.trans d1, b2.symm.trans d2, b3.symm.trans d3, b4.symm.trans d4, b5.symm.trans d5, h1⟩
      · exact absurd HX.out.symm (hn a0 a1 a2 a3 a4 a5 CK.out)
    subst e0 e1 e2 e3 e4 e5 e6
    go_wp2_with fail
    refine (RZ.out.code XX.out.C XX.out.cap).mono ?_
    rintro e w4 ⟨rfl, hb⟩
    obtain ⟨gp, hgp⟩ : ∃ g, g = w4.heap.size := ⟨_, rfl⟩
    have hbn := hb.alloc hb.size (.cells (supCs z0 z1 z2 z3 z4 z5) 25)
    replace KK := Aside0.mk (KK.out.trans (hbn.mono KK.out.size))
    replace S0 := Aside0.mk ((hbn.block _ (blk_lt S0.out)).trans S0.out)
    replace XX := Aside0.mk (own_below XX.out hbn)
    have P3 := Aside0.mk (show (w4.alloc (.cells (supCs z0 z1 z2 z3 z4 z5) 25)).heap[gp]? = some (.cells (supCs z0 z1 z2 z3 z4 z5) 25 (0, 0)) from by rw [hgp]; exact heap_new w4 _)
    have C3 := Aside0.mk (Kd.C_below C0.out KK.out)
    have hlen : (supR 0 z0 z1 z2 z3 z4 z5).length = 256 := by rw [HX.out, supB_length]
    clear hb hbn
    obtain ⟨s0, s1, s2, s3, s4, s5⟩ := sup_cells S0.out
    obtain ⟨p0, p1, p2, p3, p4, p5⟩ := sup_cells P3.out
    go_wp2_with fail
    clear s0 s1 s2 s3 s4 s5 p0 p1 p2 p3 p4 p5
    refine (RD.out.code C3.out HC.out).mono ?_
    rintro e w7 ⟨rfl, hb⟩
    have hbn := hb.alloc hb.size (.cells (supCs y0 y1 y2 y3 y4 y5) 25)
    replace KK := Aside0.mk (KK.out.trans (hbn.mono KK.out.size))
    clear hb hbn
    by_cases hey : ey = 0
    case neg =>
      have hne : (ey == 0) = false := by simpa using hey
      clear hey
      go_wp2_with fail
      go_ret
      exact ⟨by simp, KK.out⟩
    subst hey
    obtain ⟨hk, hs⟩ : super_Check.f y0 y1 y2 y3 y4 y5 = some 0 ∧ supB y0 y1 y2 y3 y4 y5 = l := by
      rcases PP.out with ⟨_, h1, h2⟩ | ⟨h, _⟩
      · exact ⟨h1, h2⟩
      · exact absurd h (by decide)
    have HK := Aside0.mk hk
    have HS := Aside0.mk (show supR 0 y0 y1 y2 y3 y4 y5 = l from (if_pos rfl).trans hs)
    clear hk hs
    go_wp2_with fail
    refine (sbytes_c HK.out).mono ?_
    rintro e w8 ⟨U, cu, rfl, hU, hb⟩
    rw [HS.out] at hU
    rw [HS.out]
    replace KK := Aside0.mk (KK.out.trans (hb.mono KK.out.size))
    have UU := Aside0.mk hU
    have C8 := Aside0.mk (Kd.C_below C0.out KK.out)
    clear hb hU
    go_wp2_with fail
    refine (eqself_c UU.out.C UU.out.cap C8.out HC.out).mono ?_
    rintro e w9 ⟨rfl, hb⟩
    replace KK := Aside0.mk (KK.out.trans (hb.mono KK.out.size))
    clear hb
    go_wp2_with fail
    go_ret
    exact ⟨by simp, KK.out⟩
  case neg =>
    have hb0 : (ck == 0) = false := by simpa using h0
    have C3 := Aside0.mk (Kd.C_below C0.out KK.out)
    clear h0
    go_wp2_with fail
    refine (RD.out.code C3.out HC.out).mono ?_
    rintro e w7 ⟨rfl, hb⟩
    have hbn := hb.alloc hb.size (.cells (supCs y0 y1 y2 y3 y4 y5) 25)
    replace KK := Aside0.mk (KK.out.trans (hbn.mono KK.out.size))
    clear hb hbn
    by_cases hey : ey = 0
    case neg =>
      have hne : (ey == 0) = false := by simpa using hey
      clear hey
      go_wp2_with fail
      go_ret
      exact ⟨by simp, KK.out⟩
    subst hey
    obtain ⟨hk, hs⟩ : super_Check.f y0 y1 y2 y3 y4 y5 = some 0 ∧ supB y0 y1 y2 y3 y4 y5 = l := by
      rcases PP.out with ⟨_, h1, h2⟩ | ⟨h, _⟩
      · exact ⟨h1, h2⟩
      · exact absurd h (by decide)
    have HK := Aside0.mk hk
    have HS := Aside0.mk (show supR 0 y0 y1 y2 y3 y4 y5 = l from (if_pos rfl).trans hs)
    clear hk hs
    go_wp2_with fail
    refine (sbytes_c HK.out).mono ?_
    rintro e w8 ⟨U, cu, rfl, hU, hb⟩
    rw [HS.out] at hU
    rw [HS.out]
    replace KK := Aside0.mk (KK.out.trans (hb.mono KK.out.size))
    have UU := Aside0.mk hU
    have C8 := Aside0.mk (Kd.C_below C0.out KK.out)
    clear hb hU
    go_wp2_with fail
    refine (eqself_c UU.out.C UU.out.cap C8.out HC.out).mono ?_
    rintro e w9 ⟨rfl, hb⟩
    replace KK := Aside0.mk (KK.out.trans (hb.mono KK.out.size))
    clear hb
    go_wp2_with fail
    go_ret
    exact ⟨by simp, KK.out⟩
theorem SuperBackR (w : World) (a0 : Int) (_ : (Lit.int .i64 a0).wf = true) (a1 : Int) (_ : (Lit.int .i64 a1).wf = true) (a2 : Int) (_ : (Lit.int .i64 a2).wf = true) (a3 : Int) (_ : (Lit.int .i64 a3).wf = true) (a4 : Int) (_ : (Lit.int .i64 a4).wf = true) (a5 : Int) (_ : (Lit.int .i64 a5).wf = true) (A : Option Addr) (ca : Nat) (l : List Int) (hwl : ∀ x ∈ l, (Lit.int .u8 x).wf = true) (hzl : l.length * 1 ≤ 140737488351232) (hCl : Kd.C (Kd.int .u8) w A l.length l) (hcl : l.length ≤ ca) :
    Calls Try.prog 5 #[.agg #[.int .i64 a0, .int .i64 a1, .int .i64 a2, .int .i64 a3, .int .i64 a4, .int .i64 a5], .slice A l.length ca] w fun e w' => e = .returned (.bool true) ∧ Below w.heap.size w w' :=
  SuperBack w a0 a1 a2 a3 a4 a5 A ca l (bytes_wf hwl) (by omega) hCl hcl
end Go.Proofs.Ytojolpamgijcbaa.Pure
