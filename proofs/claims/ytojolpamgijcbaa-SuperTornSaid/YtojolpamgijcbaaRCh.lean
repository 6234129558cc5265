/- Which super counts, of two blocks, by the document's answer: its walk. -/
import Derived.Test.YtojolpamgijcbaaSL
import Derived.Deep.RegionHeld3
namespace Go.Proofs.Ytojolpamgijcbaa.Pure
open Go.RowKit Go.Proofs.Ytojolpamgijcbaa Go.Proofs.Ytojolpamgijcbaa.PAll Go.Proofs.Ytojolpamgijcbaa.PGt Go.Proofs.Ytojolpamgijcbaa.Mem Go.Proofs.YtojolpamgijcbaaW.PrintWords Go.Proofs.YtojolpamgijcbaaW.PrintLast Go.Proofs.YtojolpamgijcbaaW.PrintMore
set_option linter.unusedVariables false
set_option linter.unusedSimpArgs false

def slotI (e : Int) : Int := if e < 0 then 0 else e % 2
/-- Which of what two blocks say counts. -/
def ChIs (y0 y1 y2 y3 y4 y5 ey z0 z1 z2 z3 z4 z5 ez r0 r1 r2 r3 r4 r5 er : Int) (one two : Bool) : Prop :=
  one = decide (ey = 0 ∧ slotI y0 = 0) ∧ two = decide (ez = 0 ∧ slotI z0 = 1) ∧
  ((one = true ∧ (two = false ∨ y0 > z0) ∧ r0 = y0 ∧ r1 = y1 ∧ r2 = y2 ∧ r3 = y3 ∧ r4 = y4 ∧ r5 = y5 ∧ er = 0) ∨ (¬ (one = true ∧ (two = false ∨ y0 > z0)) ∧ two = true ∧ r0 = z0 ∧ r1 = z1 ∧ r2 = z2 ∧ r3 = z3 ∧ r4 = z4 ∧ r5 = z5 ∧ er = 0) ∨ (one = false ∧ two = false ∧ r0 = 0 ∧ r1 = 0 ∧ r2 = 0 ∧ r3 = 0 ∧ r4 = 0 ∧ r5 = 0 ∧ er = 50))
theorem ch_is (y0 y1 y2 y3 y4 y5 ey z0 z1 z2 z3 z4 z5 ez : Int) : ∃ r0 r1 r2 r3 r4 r5 er one two, ChIs y0 y1 y2 y3 y4 y5 ey z0 z1 z2 z3 z4 z5 ez r0 r1 r2 r3 r4 r5 er one two := by
  by_cases h1 : decide (ey = 0 ∧ slotI y0 = 0) = true ∧ (decide (ez = 0 ∧ slotI z0 = 1) = false ∨ y0 > z0)
  · exact ⟨y0, y1, y2, y3, y4, y5, 0, _, _, rfl, rfl, .inl ⟨h1.1, h1.2, rfl, rfl, rfl, rfl, rfl, rfl, rfl⟩⟩
  · by_cases h2 : decide (ez = 0 ∧ slotI z0 = 1) = true
    · exact ⟨z0, z1, z2, z3, z4, z5, 0, _, _, rfl, rfl, .inr (.inl ⟨h1, h2, rfl, rfl, rfl, rfl, rfl, rfl, rfl⟩)⟩
    · refine ⟨0, 0, 0, 0, 0, 0, 50, _, _, rfl, rfl, .inr (.inr ⟨?_, by simpa using h2, rfl, rfl, rfl, rfl, rfl, rfl, rfl⟩)⟩
      cases h3 : decide (ey = 0 ∧ slotI y0 = 0)
      · rfl
      · exact absurd ⟨h3, .inl (by simpa using h2)⟩ h1
theorem rslot_c (w : World) (y0 y1 y2 y3 y4 y5 : Int) : Calls Try.prog 16 #[.agg #[.int .i64 y0, .int .i64 y1, .int .i64 y2, .int .i64 y3, .int .i64 y4, .int .i64 y5]] w fun e w' => e = .returned (.int .i64 (slotI y0)) ∧ Below w.heap.size w w' := by
  obtain ⟨sl, _, h2, h3⟩ := slot_eq y0 y1 y2 y3 y4 y5
  have := atticref05_Slot.calls y0 y1 y2 y3 y4 y5 sl w h2
  rw [h3] at this
  exact this
theorem slot_c (w : World) (y0 y1 y2 y3 y4 y5 : Int) : Calls Try.prog 15 #[.agg #[.int .i64 y0, .int .i64 y1, .int .i64 y2, .int .i64 y3, .int .i64 y4, .int .i64 y5]] w fun e w' => e = .returned (.int .i64 (slotI y0)) ∧ Below w.heap.size w w' := by
  obtain ⟨sl, h1, _, h3⟩ := slot_eq y0 y1 y2 y3 y4 y5
  have := super_Slot.calls y0 y1 y2 y3 y4 y5 sl w h1
  rw [h3] at this
  exact this
set_option maxRecDepth 100000 in
set_option maxHeartbeats 16000000 in
theorem rchoose_c {w : World} {A B : Option Addr} {ca cb : Nat} {la lb : List Int} (hA : Kd.C (Kd.int .u8) w A la.length la) (hca : la.length ≤ ca) (hB : Kd.C (Kd.int .u8) w B lb.length lb) (hcb : lb.length ≤ cb)
    {y0 y1 y2 y3 y4 y5 ey z0 z1 z2 z3 z4 z5 ez r0 r1 r2 r3 r4 r5 er : Int} {one two : Bool} (hra : Reads2 la y0 y1 y2 y3 y4 y5 ey) (hrb : Reads2 lb z0 z1 z2 z3 z4 z5 ez) (hch : ChIs y0 y1 y2 y3 y4 y5 ey z0 z1 z2 z3 z4 z5 ez r0 r1 r2 r3 r4 r5 er one two) :
    Calls Try.prog 24 #[.slice A la.length ca, .slice B lb.length cb] w fun e w' => e = .returned (.tuple #[.agg #[.int .i64 r0, .int .i64 r1, .int .i64 r2, .int .i64 r3, .int .i64 r4, .int .i64 r5], .int .i64 er]) ∧ Below w.heap.size w w' := by
  have hu25 := Try.underlying25
  have hu23 := Try.underlying23
  have RA := Aside0.mk hra
  have RB := Aside0.mk hrb
  have CH := Aside0.mk hch
  have B0 := Aside0.mk hB
  have KK := Aside0.mk ((Below.refl w.heap.size w).alloc (Nat.le_refl _) (.cells (supCs 0 0 0 0 0 0) 25))
  have G0 := Aside0.mk (heap_new w (.cells (supCs 0 0 0 0 0 0) 25))
  have A1 := Aside0.mk (Kd.C_below hA KK.out)
  clear hA hB hra hrb hch
  go_enter Try.func24, Try.ntmps24
  go_wp2_with fail
  refine (RA.out.ref A1.out hca).mono ?_
  rintro e w1 ⟨rfl, hb⟩
  obtain ⟨g6, hg6⟩ : ∃ g, g = w1.heap.size := ⟨_, rfl⟩
  have hbn := hb.alloc hb.size (.cells (supCs y0 y1 y2 y3 y4 y5) 25)
  replace KK := Aside0.mk (KK.out.trans (hbn.mono KK.out.size))
  replace G0 := Aside0.mk ((hbn.block _ (blk_lt G0.out)).trans G0.out)
  have Y1 := Aside0.mk (show (w1.alloc (.cells (supCs y0 y1 y2 y3 y4 y5) 25)).heap[g6]? = some (.cells (supCs y0 y1 y2 y3 y4 y5) 25 (0, 0)) from by rw [hg6]; exact heap_new w1 _)
  have B1 := Aside0.mk (Kd.C_below B0.out KK.out)
  clear hb hbn A1
  go_wp2_with fail
  rw [← hg6]
  clear hg6
  refine (RB.out.ref B1.out hcb).mono ?_
  rintro e w2 ⟨rfl, hb⟩
  have hbn := hb.alloc hb.size (.cells (supCs z0 z1 z2 z3 z4 z5) 25)
  replace KK := Aside0.mk (KK.out.trans (hbn.mono KK.out.size))
  replace G0 := Aside0.mk ((hbn.block _ (blk_lt G0.out)).trans G0.out)
  replace Y1 := Aside0.mk ((hbn.block _ (blk_lt Y1.out)).trans Y1.out)
  have Z1 := Aside0.mk (show (w2.alloc (.cells (supCs z0 z1 z2 z3 z4 z5) 25)).heap[w2.heap.size]? = some (.cells (supCs z0 z1 z2 z3 z4 z5) 25 (0, 0)) from heap_new w2 _)
  clear hb hbn B1
  go_upto_region 3 with fail
  generalize w2.heap.size = g8 at Z1 ⊢
  generalize w2.alloc (.cells (supCs z0 z1 z2 z3 z4 z5) 25) = w3 at KK G0 Y1 Z1 ⊢
  go_cut [10] from 22 to 28 (fun v10 w' => v10 = .bool one ∧ Aside0 (w'.heap[w.heap.size]? = some (.cells (supCs 0 0 0 0 0 0) 25 (0, 0))) ∧ Aside0 (w'.heap[g6]? = some (.cells (supCs y0 y1 y2 y3 y4 y5) 25 (0, 0))) ∧ Aside0 (w'.heap[g8]? = some (.cells (supCs z0 z1 z2 z3 z4 z5) 25 (0, 0))) ∧ Aside0 (Below w.heap.size w w'))
  case first =>
    by_cases he : ey = 0
    case neg =>
      have hne : (ey == 0) = false := by simpa using he
      have ho : one = false := by rw [CH.out.1]; exact decide_eq_false (fun h => he h.1)
      go_wp2_with fail
      go_meet
      case rel => exact ⟨by rw [ho], G0, Y1, Z1, KK⟩
    have hye : (ey == 0) = true := by simpa using he
    have HE := Aside0.mk he
    clear he
    obtain ⟨p0, p1, p2, p3, p4, p5⟩ := sup_cells Y1.out
    go_wp2_with fail
    refine (rslot_c _ y0 y1 y2 y3 y4 y5).mono ?_
    rintro e wn ⟨rfl, hb⟩
    replace KK := Aside0.mk (KK.out.trans (hb.mono KK.out.size))
    replace G0 := Aside0.mk ((hb.block _ (blk_lt G0.out)).trans G0.out)
    replace Y1 := Aside0.mk ((hb.block _ (blk_lt Y1.out)).trans Y1.out)
    replace Z1 := Aside0.mk ((hb.block _ (blk_lt Z1.out)).trans Z1.out)
    clear hb p0 p1 p2 p3 p4 p5
    by_cases hs : slotI y0 = 0
    case neg =>
      have hne : (slotI y0 == 0) = false := by simpa using hs
      have ho : one = false := by rw [CH.out.1]; exact decide_eq_false (fun h => hs h.2)
      go_wp2_with fail
      go_meet
      case rel => exact ⟨by rw [ho], G0, Y1, Z1, KK⟩
    have hne : (slotI y0 == 0) = true := by simpa using hs
    have ho : one = true := by rw [CH.out.1]; exact decide_eq_true ⟨HE.out, hs⟩
    clear hs
    go_wp2_with fail
    go_meet
    case rel => exact ⟨by rw [ho], G0, Y1, Z1, KK⟩
  case rest =>
    clear KK G0 Y1 Z1
    obtain ⟨rfl, G0, Y1, Z1, KK⟩ := hcut
    go_upto_region 4 with fail
    go_cut [11] from 29 to 35 (fun v11 w' => v11 = .bool two ∧ Aside0 (w'.heap[w.heap.size]? = some (.cells (supCs 0 0 0 0 0 0) 25 (0, 0))) ∧ Aside0 (w'.heap[g6]? = some (.cells (supCs y0 y1 y2 y3 y4 y5) 25 (0, 0))) ∧ Aside0 (w'.heap[g8]? = some (.cells (supCs z0 z1 z2 z3 z4 z5) 25 (0, 0))) ∧ Aside0 (Below w.heap.size w w'))
    case first =>
      by_cases he : ez = 0
      case neg =>
        have hne : (ez == 0) = false := by simpa using he
        have ho : two = false := by rw [CH.out.2.1]; exact decide_eq_false (fun h => he h.1)
        go_wp2_with fail
        go_meet
        case rel => exact ⟨by rw [ho], G0, Y1, Z1, KK⟩
      have hye : (ez == 0) = true := by simpa using he
      have HE := Aside0.mk he
      clear he
      obtain ⟨p0, p1, p2, p3, p4, p5⟩ := sup_cells Z1.out
      go_wp2_with fail
      refine (rslot_c _ z0 z1 z2 z3 z4 z5).mono ?_
      rintro e wn ⟨rfl, hb⟩
      replace KK := Aside0.mk (KK.out.trans (hb.mono KK.out.size))
      replace G0 := Aside0.mk ((hb.block _ (blk_lt G0.out)).trans G0.out)
      replace Y1 := Aside0.mk ((hb.block _ (blk_lt Y1.out)).trans Y1.out)
      replace Z1 := Aside0.mk ((hb.block _ (blk_lt Z1.out)).trans Z1.out)
      clear hb p0 p1 p2 p3 p4 p5
      by_cases hs : slotI z0 = 1
      case neg =>
        have hne : (slotI z0 == 1) = false := by simpa using hs
        have ho : two = false := by rw [CH.out.2.1]; exact decide_eq_false (fun h => hs h.2)
        go_wp2_with fail
        go_meet
        case rel => exact ⟨by rw [ho], G0, Y1, Z1, KK⟩
      have hne : (slotI z0 == 1) = true := by simpa using hs
      have ho : two = true := by rw [CH.out.2.1]; exact decide_eq_true ⟨HE.out, hs⟩
      clear hs
      go_wp2_with fail
      go_meet
      case rel => exact ⟨by rw [ho], G0, Y1, Z1, KK⟩
    case rest =>
      clear KK G0 Y1 Z1
      obtain ⟨rfl, G0, Y1, Z1, KK⟩ := hcut
      obtain ⟨p0, p1, p2, p3, p4, p5⟩ := sup_cells Y1.out
      obtain ⟨q0, q1, q2, q3, q4, q5⟩ := sup_cells Z1.out
      obtain ⟨s0, s1, s2, s3, s4, s5⟩ := sup_cells G0.out
      have f0 := blk_frozen G0.out 0
      have f1 := blk_frozen G0.out 1
      have f2 := blk_frozen G0.out 2
      have f3 := blk_frozen G0.out 3
      have f4 := blk_frozen G0.out 4
      have f5 := blk_frozen G0.out 5
      have hout := CH.out.2.2
      cases one with
      | true =>
        cases two with
        | false =>
          obtain ⟨rfl, rfl, rfl, rfl, rfl, rfl, rfl⟩ : r0 = y0 ∧ r1 = y1 ∧ r2 = y2 ∧ r3 = y3 ∧ r4 = y4 ∧ r5 = y5 ∧ er = 0 := by
            rcases hout with ⟨_, _, h⟩ | ⟨_, h, _⟩ | ⟨h, _⟩
            · exact h
            · cases h
            · cases h
          clear hout
          go_wp2_with fail
          obtain ⟨hs, hk⟩ := set6 G0.out KK.out (Nat.le_refl _) (.int .i64 r0) (.int .i64 r1) (.int .i64 r2) (.int .i64 r3) (.int .i64 r4) (.int .i64 r5)
          refine bodyPost_ret (results_ct rfl _ _ w.heap.size 25 #[.int .i64 r0, .int .i64 r1, .int .i64 r2, .int .i64 r3, .int .i64 r4, .int .i64 r5] (0, 0) _ rfl hs Try.underlying25 rfl (by kernel_rfl)) rfl ?_
          exact ⟨rfl, hk⟩
        | true =>
          by_cases hgt : y0 > z0
          · obtain ⟨rfl, rfl, rfl, rfl, rfl, rfl, rfl⟩ : r0 = y0 ∧ r1 = y1 ∧ r2 = y2 ∧ r3 = y3 ∧ r4 = y4 ∧ r5 = y5 ∧ er = 0 := by
              rcases hout with ⟨_, _, h⟩ | ⟨h, _⟩ | ⟨h, _⟩
              · exact h
              · exact absurd ⟨rfl, .inr hgt⟩ h
              · cases h
            have hgd : decide (r0 > z0) = true := decide_eq_true hgt
            have hgd2 : decide (z0 < r0) = true := decide_eq_true hgt
            clear hout hgt
            go_wp2_with fail
            obtain ⟨hs, hk⟩ := set6 G0.out KK.out (Nat.le_refl _) (.int .i64 r0) (.int .i64 r1) (.int .i64 r2) (.int .i64 r3) (.int .i64 r4) (.int .i64 r5)
            refine bodyPost_ret (results_ct rfl _ _ w.heap.size 25 #[.int .i64 r0, .int .i64 r1, .int .i64 r2, .int .i64 r3, .int .i64 r4, .int .i64 r5] (0, 0) _ rfl hs Try.underlying25 rfl (by kernel_rfl)) rfl ?_
            exact ⟨rfl, hk⟩
          · obtain ⟨rfl, rfl, rfl, rfl, rfl, rfl, rfl⟩ : r0 = z0 ∧ r1 = z1 ∧ r2 = z2 ∧ r3 = z3 ∧ r4 = z4 ∧ r5 = z5 ∧ er = 0 := by
              rcases hout with ⟨_, h, _⟩ | ⟨_, _, h⟩ | ⟨h, _⟩
              · rcases h with h | h
                · cases h
                · exact absurd h hgt
              · exact h
              · cases h
            have hgd : decide (y0 > r0) = false := decide_eq_false hgt
            have hgd2 : decide (r0 < y0) = false := decide_eq_false hgt
            clear hout hgt
            go_wp2_with fail
            obtain ⟨hs, hk⟩ := set6 G0.out KK.out (Nat.le_refl _) (.int .i64 r0) (.int .i64 r1) (.int .i64 r2) (.int .i64 r3) (.int .i64 r4) (.int .i64 r5)
            refine bodyPost_ret (results_ct rfl _ _ w.heap.size 25 #[.int .i64 r0, .int .i64 r1, .int .i64 r2, .int .i64 r3, .int .i64 r4, .int .i64 r5] (0, 0) _ rfl hs Try.underlying25 rfl (by kernel_rfl)) rfl ?_
            exact ⟨rfl, hk⟩
      | false =>
        cases two with
        | true =>
          obtain ⟨rfl, rfl, rfl, rfl, rfl, rfl, rfl⟩ : r0 = z0 ∧ r1 = z1 ∧ r2 = z2 ∧ r3 = z3 ∧ r4 = z4 ∧ r5 = z5 ∧ er = 0 := by
            rcases hout with ⟨h, _⟩ | ⟨_, _, h⟩ | ⟨_, h, _⟩
            · cases h
            · exact h
            · cases h
          clear hout
          go_wp2_with fail
          obtain ⟨hs, hk⟩ := set6 G0.out KK.out (Nat.le_refl _) (.int .i64 r0) (.int .i64 r1) (.int .i64 r2) (.int .i64 r3) (.int .i64 r4) (.int .i64 r5)
          refine bodyPost_ret (results_ct rfl _ _ w.heap.size 25 #[.int .i64 r0, .int .i64 r1, .int .i64 r2, .int .i64 r3, .int .i64 r4, .int .i64 r5] (0, 0) _ rfl hs Try.underlying25 rfl (by kernel_rfl)) rfl ?_
          exact ⟨rfl, hk⟩
        | false =>
          obtain ⟨rfl, rfl, rfl, rfl, rfl, rfl, rfl⟩ : r0 = 0 ∧ r1 = 0 ∧ r2 = 0 ∧ r3 = 0 ∧ r4 = 0 ∧ r5 = 0 ∧ er = 50 := by
            rcases hout with ⟨h, _⟩ | ⟨_, h, _⟩ | ⟨_, _, h⟩
            · cases h
            · cases h
            · exact h
          clear hout
          go_wp2_with fail
          obtain ⟨hs, hk⟩ := set6 G0.out KK.out (Nat.le_refl _) (.int .i64 0) (.int .i64 0) (.int .i64 0) (.int .i64 0) (.int .i64 0) (.int .i64 0)
          refine bodyPost_ret (results_ct rfl _ _ w.heap.size 25 #[.int .i64 0, .int .i64 0, .int .i64 0, .int .i64 0, .int .i64 0, .int .i64 0] (0, 0) _ rfl hs Try.underlying25 rfl (by kernel_rfl)) rfl ?_
          exact ⟨rfl, hk⟩
end Go.Proofs.Ytojolpamgijcbaa.Pure
