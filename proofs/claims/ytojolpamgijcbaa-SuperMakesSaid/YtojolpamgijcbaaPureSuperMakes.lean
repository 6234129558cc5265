/- Which supers may be, a geometry's first one, the one behind any, with any head. -/
import Derived.Test.YtojolpamgijcbaaSupC
import Derived.Deep.RegionHeld3
import Derived.RangeFuncRecord
namespace Go.Proofs.Ytojolpamgijcbaa.Pure
open Go.RowKit Go.Proofs.Ytojolpamgijcbaa Go.Proofs.Ytojolpamgijcbaa.PAll Go.Proofs.Ytojolpamgijcbaa.Mem Go.Proofs.YtojolpamgijcbaaW.PrintWords Go.Proofs.YtojolpamgijcbaaW.PrintLast Go.Proofs.YtojolpamgijcbaaW.PrintMore
set_option linter.unusedVariables false
set_option linter.unusedSimpArgs false
attribute [local go_sem high] eqS25
set_option maxRecDepth 100000 in
set_option maxHeartbeats 16000000 in
theorem SuperMakes (w : World) (a0 a1 a2 a3 a4 a5 h : Int) : Calls Try.prog 3 #[.agg (supCs a0 a1 a2 a3 a4 a5), .int .i64 h] w fun e w' => e = .returned (.bool true) ∧ Below w.heap.size w w' := by
  have hu25 := Try.underlying25
  have hu23 := Try.underlying23
  obtain ⟨⟨x0, x1, x2, x3, x4, x5, x6⟩, hf1, hf2⟩ := first_eq 1 a1 a2 a3 a4 (by decide)
  obtain ⟨⟨y0, y1, y2, y3, y4, y5, y6⟩, hn1, hn2⟩ := next_eq 2 a0 a1 a2 a3 a4 a5 h (by decide)
  obtain ⟨ck, hc1, hc2⟩ := chk_eq 1 a0 a1 a2 a3 a4 a5 (by decide)
  obtain ⟨sl, hs1, hs2, -⟩ := slot_eq a0 a1 a2 a3 a4 a5
  have F1 := Aside0.mk hf1
  have F2 := Aside0.mk hf2
  have N1 := Aside0.mk hn1
  have N2 := Aside0.mk hn2
  have CK1 := Aside0.mk hc1
  have CK2 := Aside0.mk hc2
  have SL1 := Aside0.mk hs1
  have SL2 := Aside0.mk hs2
  have KK := Aside0.mk ((Below.refl w.heap.size w).alloc (Nat.le_refl _) (.cells (supCs a0 a1 a2 a3 a4 a5) 25))
  have S2 := Aside0.mk (heap_new w (.cells (supCs a0 a1 a2 a3 a4 a5) 25))
  clear hf1 hf2 hn1 hn2 hc1 hc2 hs1 hs2
  go_enter Try.func3, Try.ntmps3
  go_wp2_with fail
  refine (super_First.calls a1 a2 a3 a4 x0 x1 x2 x3 x4 x5 x6 _ F1.out).mono ?_
  rintro e w1 ⟨rfl, hb⟩
  obtain ⟨g5, hg⟩ : ∃ g, g = w1.heap.size := ⟨_, rfl⟩
  have hbn : Below (w.alloc (.cells (supCs a0 a1 a2 a3 a4 a5) 25)).heap.size (w.alloc (.cells (supCs a0 a1 a2 a3 a4 a5) 25)) (w1.alloc (.cells (supCs x0 x1 x2 x3 x4 x5) 25)) := hb.alloc hb.size _
  replace KK := Aside0.mk (KK.out.trans (hbn.mono KK.out.size))
  replace S2 := Aside0.mk ((hbn.block _ (blk_lt S2.out)).trans S2.out)
  have X5 := Aside0.mk (show (w1.alloc (.cells (supCs x0 x1 x2 x3 x4 x5) 25)).heap[g5]? = some (.cells (supCs x0 x1 x2 x3 x4 x5) 25 (0, 0)) from by rw [hg]; exact heap_new w1 _)
  clear hb hbn
  obtain ⟨sc0, sc1, sc2, sc3, sc4, sc5⟩ := sup_cells S2.out
  go_wp2_with fail
  rw [← hg]
  clear hg sc0 sc1 sc2 sc3 sc4 sc5
  refine (atticref05_First.calls 1 a1 a2 a3 a4 x0 x1 x2 x3 x4 x5 x6 _ F2.out).mono ?_
  rintro e w2 ⟨rfl, hb⟩
  obtain ⟨g7, hg⟩ : ∃ g, g = w2.heap.size := ⟨_, rfl⟩
  have hbn : Below (w1.alloc (.cells (supCs x0 x1 x2 x3 x4 x5) 25)).heap.size (w1.alloc (.cells (supCs x0 x1 x2 x3 x4 x5) 25)) (w2.alloc (.cells (supCs x0 x1 x2 x3 x4 x5) 25)) := hb.alloc hb.size _
  replace KK := Aside0.mk (KK.out.trans (hbn.mono KK.out.size))
  replace S2 := Aside0.mk ((hbn.block _ (blk_lt S2.out)).trans S2.out)
  replace X5 := Aside0.mk ((hbn.block _ (blk_lt X5.out)).trans X5.out)
  have Y7 := Aside0.mk (show (w2.alloc (.cells (supCs x0 x1 x2 x3 x4 x5) 25)).heap[g7]? = some (.cells (supCs x0 x1 x2 x3 x4 x5) 25 (0, 0)) from by rw [hg]; exact heap_new w2 _)
  clear hb hbn
  obtain ⟨sc0, sc1, sc2, sc3, sc4, sc5⟩ := sup_cells S2.out
  go_wp2_with fail
  rw [← hg]
  clear hg sc0 sc1 sc2 sc3 sc4 sc5
  refine (super_Next.calls 2 a0 a1 a2 a3 a4 a5 h y0 y1 y2 y3 y4 y5 y6 _ N1.out).mono ?_
  rintro e w3 ⟨rfl, hb⟩
  obtain ⟨g9, hg⟩ : ∃ g, g = w3.heap.size := ⟨_, rfl⟩
  have hbn : Below (w2.alloc (.cells (supCs x0 x1 x2 x3 x4 x5) 25)).heap.size (w2.alloc (.cells (supCs x0 x1 x2 x3 x4 x5) 25)) (w3.alloc (.cells (supCs y0 y1 y2 y3 y4 y5) 25)) := hb.alloc hb.size _
  replace KK := Aside0.mk (KK.out.trans (hbn.mono KK.out.size))
  replace S2 := Aside0.mk ((hbn.block _ (blk_lt S2.out)).trans S2.out)
  replace X5 := Aside0.mk ((hbn.block _ (blk_lt X5.out)).trans X5.out)
  replace Y7 := Aside0.mk ((hbn.block _ (blk_lt Y7.out)).trans Y7.out)
  have P9 := Aside0.mk (show (w3.alloc (.cells (supCs y0 y1 y2 y3 y4 y5) 25)).heap[g9]? = some (.cells (supCs y0 y1 y2 y3 y4 y5) 25 (0, 0)) from by rw [hg]; exact heap_new w3 _)
  clear hb hbn
  obtain ⟨sc0, sc1, sc2, sc3, sc4, sc5⟩ := sup_cells S2.out
  go_wp2_with fail
  rw [← hg]
  clear hg sc0 sc1 sc2 sc3 sc4 sc5
  refine (atticref05_Next.calls 2 a0 a1 a2 a3 a4 a5 h y0 y1 y2 y3 y4 y5 y6 _ N2.out).mono ?_
  rintro e w4 ⟨rfl, hb⟩
  obtain ⟨g11, hg⟩ : ∃ g, g = w4.heap.size := ⟨_, rfl⟩
  have hbn : Below (w3.alloc (.cells (supCs y0 y1 y2 y3 y4 y5) 25)).heap.size (w3.alloc (.cells (supCs y0 y1 y2 y3 y4 y5) 25)) (w4.alloc (.cells (supCs y0 y1 y2 y3 y4 y5) 25)) := hb.alloc hb.size _
  replace KK := Aside0.mk (KK.out.trans (hbn.mono KK.out.size))
  replace S2 := Aside0.mk ((hbn.block _ (blk_lt S2.out)).trans S2.out)
  replace X5 := Aside0.mk ((hbn.block _ (blk_lt X5.out)).trans X5.out)
  replace Y7 := Aside0.mk ((hbn.block _ (blk_lt Y7.out)).trans Y7.out)
  replace P9 := Aside0.mk ((hbn.block _ (blk_lt P9.out)).trans P9.out)
  have Q11 := Aside0.mk (show (w4.alloc (.cells (supCs y0 y1 y2 y3 y4 y5) 25)).heap[g11]? = some (.cells (supCs y0 y1 y2 y3 y4 y5) 25 (0, 0)) from by rw [hg]; exact heap_new w4 _)
  clear hb hbn
  obtain ⟨sc0, sc1, sc2, sc3, sc4, sc5⟩ := sup_cells S2.out
  obtain ⟨xc0, xc1, xc2, xc3, xc4, xc5⟩ := sup_cells X5.out
  obtain ⟨yc0, yc1, yc2, yc3, yc4, yc5⟩ := sup_cells Y7.out
  obtain ⟨pc0, pc1, pc2, pc3, pc4, pc5⟩ := sup_cells P9.out
  obtain ⟨qc0, qc1, qc2, qc3, qc4, qc5⟩ := sup_cells Q11.out
  go_wp2_with fail
  rw [← hg]
  clear hg
  have hbn := below_drew (Below.refl (w4.alloc (.cells (supCs y0 y1 y2 y3 y4 y5) 25)).heap.size (w4.alloc (.cells (supCs y0 y1 y2 y3 y4 y5) 25)))
  replace KK := Aside0.mk (KK.out.trans (hbn.mono KK.out.size))
  replace S2 := Aside0.mk ((hbn.block _ (blk_lt S2.out)).trans S2.out)
  replace X5 := Aside0.mk ((hbn.block _ (blk_lt X5.out)).trans X5.out)
  replace Y7 := Aside0.mk ((hbn.block _ (blk_lt Y7.out)).trans Y7.out)
  replace P9 := Aside0.mk ((hbn.block _ (blk_lt P9.out)).trans P9.out)
  replace Q11 := Aside0.mk ((hbn.block _ (blk_lt Q11.out)).trans Q11.out)
  clear hbn
  go_region_held3 (fun w' => w'.cell? ⟨w.heap.size, 0, none⟩ = some (.int .i64 a0) ∧ w'.cell? ⟨w.heap.size, 1, none⟩ = some (.int .i64 a1) ∧ w'.cell? ⟨w.heap.size, 2, none⟩ = some (.int .i64 a2) ∧ w'.cell? ⟨w.heap.size, 3, none⟩ = some (.int .i64 a3) ∧ w'.cell? ⟨w.heap.size, 4, none⟩ = some (.int .i64 a4) ∧ w'.cell? ⟨w.heap.size, 5, none⟩ = some (.int .i64 a5) ∧ w'.cell? ⟨g5, 0, none⟩ = some (.int .i64 x0) ∧ w'.cell? ⟨g5, 1, none⟩ = some (.int .i64 x1) ∧ w'.cell? ⟨g5, 2, none⟩ = some (.int .i64 x2) ∧ w'.cell? ⟨g5, 3, none⟩ = some (.int .i64 x3) ∧ w'.cell? ⟨g5, 4, none⟩ = some (.int .i64 x4) ∧ w'.cell? ⟨g5, 5, none⟩ = some (.int .i64 x5) ∧ w'.cell? ⟨g7, 0, none⟩ = some (.int .i64 x0) ∧ w'.cell? ⟨g7, 1, none⟩ = some (.int .i64 x1) ∧ w'.cell? ⟨g7, 2, none⟩ = some (.int .i64 x2) ∧ w'.cell? ⟨g7, 3, none⟩ = some (.int .i64 x3) ∧ w'.cell? ⟨g7, 4, none⟩ = some (.int .i64 x4) ∧ w'.cell? ⟨g7, 5, none⟩ = some (.int .i64 x5) ∧ w'.cell? ⟨g9, 0, none⟩ = some (.int .i64 y0) ∧ w'.cell? ⟨g9, 1, none⟩ = some (.int .i64 y1) ∧ w'.cell? ⟨g9, 2, none⟩ = some (.int .i64 y2) ∧ w'.cell? ⟨g9, 3, none⟩ = some (.int .i64 y3) ∧ w'.cell? ⟨g9, 4, none⟩ = some (.int .i64 y4) ∧ w'.cell? ⟨g9, 5, none⟩ = some (.int .i64 y5) ∧ w'.cell? ⟨g11, 0, none⟩ = some (.int .i64 y0) ∧ w'.cell? ⟨g11, 1, none⟩ = some (.int .i64 y1) ∧ w'.cell? ⟨g11, 2, none⟩ = some (.int .i64 y2) ∧ w'.cell? ⟨g11, 3, none⟩ = some (.int .i64 y3) ∧ w'.cell? ⟨g11, 4, none⟩ = some (.int .i64 y4) ∧ w'.cell? ⟨g11, 5, none⟩ = some (.int .i64 y5)) (go_keep)
    (first
      | (go_at_call 12; refine (atticlaw05_live.calls 3 true _ live_true).mono ?_; rintro e wn ⟨rfl, hbn⟩; replace KK := Aside0.mk (KK.out.trans (hbn.mono KK.out.size)); replace S2 := Aside0.mk ((hbn.block _ (blk_lt S2.out)).trans S2.out); replace X5 := Aside0.mk ((hbn.block _ (blk_lt X5.out)).trans X5.out); replace Y7 := Aside0.mk ((hbn.block _ (blk_lt Y7.out)).trans Y7.out); replace P9 := Aside0.mk ((hbn.block _ (blk_lt P9.out)).trans P9.out); replace Q11 := Aside0.mk ((hbn.block _ (blk_lt Q11.out)).trans Q11.out); clear hbn sc0 sc1 sc2 sc3 sc4 sc5 xc0 xc1 xc2 xc3 xc4 xc5 yc0 yc1 yc2 yc3 yc4 yc5 pc0 pc1 pc2 pc3 pc4 pc5 qc0 qc1 qc2 qc3 qc4 qc5; obtain ⟨sc0, sc1, sc2, sc3, sc4, sc5⟩ := sup_cells S2.out; obtain ⟨xc0, xc1, xc2, xc3, xc4, xc5⟩ := sup_cells X5.out; obtain ⟨yc0, yc1, yc2, yc3, yc4, yc5⟩ := sup_cells Y7.out; obtain ⟨pc0, pc1, pc2, pc3, pc4, pc5⟩ := sup_cells P9.out; obtain ⟨qc0, qc1, qc2, qc3, qc4, qc5⟩ := sup_cells Q11.out)
      | (go_at_call 13; refine (super_Check.calls a0 a1 a2 a3 a4 a5 ck _ CK1.out).mono ?_; rintro e wn ⟨rfl, hbn⟩; replace KK := Aside0.mk (KK.out.trans (hbn.mono KK.out.size)); replace S2 := Aside0.mk ((hbn.block _ (blk_lt S2.out)).trans S2.out); replace X5 := Aside0.mk ((hbn.block _ (blk_lt X5.out)).trans X5.out); replace Y7 := Aside0.mk ((hbn.block _ (blk_lt Y7.out)).trans Y7.out); replace P9 := Aside0.mk ((hbn.block _ (blk_lt P9.out)).trans P9.out); replace Q11 := Aside0.mk ((hbn.block _ (blk_lt Q11.out)).trans Q11.out); clear hbn sc0 sc1 sc2 sc3 sc4 sc5 xc0 xc1 xc2 xc3 xc4 xc5 yc0 yc1 yc2 yc3 yc4 yc5 pc0 pc1 pc2 pc3 pc4 pc5 qc0 qc1 qc2 qc3 qc4 qc5; obtain ⟨sc0, sc1, sc2, sc3, sc4, sc5⟩ := sup_cells S2.out; obtain ⟨xc0, xc1, xc2, xc3, xc4, xc5⟩ := sup_cells X5.out; obtain ⟨yc0, yc1, yc2, yc3, yc4, yc5⟩ := sup_cells Y7.out; obtain ⟨pc0, pc1, pc2, pc3, pc4, pc5⟩ := sup_cells P9.out; obtain ⟨qc0, qc1, qc2, qc3, qc4, qc5⟩ := sup_cells Q11.out)
      | (go_at_call 14; refine (atticref05_Check.calls 1 a0 a1 a2 a3 a4 a5 ck _ CK2.out).mono ?_; rintro e wn ⟨rfl, hbn⟩; replace KK := Aside0.mk (KK.out.trans (hbn.mono KK.out.size)); replace S2 := Aside0.mk ((hbn.block _ (blk_lt S2.out)).trans S2.out); replace X5 := Aside0.mk ((hbn.block _ (blk_lt X5.out)).trans X5.out); replace Y7 := Aside0.mk ((hbn.block _ (blk_lt Y7.out)).trans Y7.out); replace P9 := Aside0.mk ((hbn.block _ (blk_lt P9.out)).trans P9.out); replace Q11 := Aside0.mk ((hbn.block _ (blk_lt Q11.out)).trans Q11.out); clear hbn sc0 sc1 sc2 sc3 sc4 sc5 xc0 xc1 xc2 xc3 xc4 xc5 yc0 yc1 yc2 yc3 yc4 yc5 pc0 pc1 pc2 pc3 pc4 pc5 qc0 qc1 qc2 qc3 qc4 qc5; obtain ⟨sc0, sc1, sc2, sc3, sc4, sc5⟩ := sup_cells S2.out; obtain ⟨xc0, xc1, xc2, xc3, xc4, xc5⟩ := sup_cells X5.out; obtain ⟨yc0, yc1, yc2, yc3, yc4, yc5⟩ := sup_cells Y7.out; obtain ⟨pc0, pc1, pc2, pc3, pc4, pc5⟩ := sup_cells P9.out; obtain ⟨qc0, qc1, qc2, qc3, qc4, qc5⟩ := sup_cells Q11.out)
      | (go_at_call 15; refine (super_Slot.calls a0 a1 a2 a3 a4 a5 sl _ SL1.out).mono ?_; rintro e wn ⟨rfl, hbn⟩; replace KK := Aside0.mk (KK.out.trans (hbn.mono KK.out.size)); replace S2 := Aside0.mk ((hbn.block _ (blk_lt S2.out)).trans S2.out); replace X5 := Aside0.mk ((hbn.block _ (blk_lt X5.out)).trans X5.out); replace Y7 := Aside0.mk ((hbn.block _ (blk_lt Y7.out)).trans Y7.out); replace P9 := Aside0.mk ((hbn.block _ (blk_lt P9.out)).trans P9.out); replace Q11 := Aside0.mk ((hbn.block _ (blk_lt Q11.out)).trans Q11.out); clear hbn sc0 sc1 sc2 sc3 sc4 sc5 xc0 xc1 xc2 xc3 xc4 xc5 yc0 yc1 yc2 yc3 yc4 yc5 pc0 pc1 pc2 pc3 pc4 pc5 qc0 qc1 qc2 qc3 qc4 qc5; obtain ⟨sc0, sc1, sc2, sc3, sc4, sc5⟩ := sup_cells S2.out; obtain ⟨xc0, xc1, xc2, xc3, xc4, xc5⟩ := sup_cells X5.out; obtain ⟨yc0, yc1, yc2, yc3, yc4, yc5⟩ := sup_cells Y7.out; obtain ⟨pc0, pc1, pc2, pc3, pc4, pc5⟩ := sup_cells P9.out; obtain ⟨qc0, qc1, qc2, qc3, qc4, qc5⟩ := sup_cells Q11.out)
      | (go_at_call 16; refine (atticref05_Slot.calls a0 a1 a2 a3 a4 a5 sl _ SL2.out).mono ?_; rintro e wn ⟨rfl, hbn⟩; replace KK := Aside0.mk (KK.out.trans (hbn.mono KK.out.size)); replace S2 := Aside0.mk ((hbn.block _ (blk_lt S2.out)).trans S2.out); replace X5 := Aside0.mk ((hbn.block _ (blk_lt X5.out)).trans X5.out); replace Y7 := Aside0.mk ((hbn.block _ (blk_lt Y7.out)).trans Y7.out); replace P9 := Aside0.mk ((hbn.block _ (blk_lt P9.out)).trans P9.out); replace Q11 := Aside0.mk ((hbn.block _ (blk_lt Q11.out)).trans Q11.out); clear hbn sc0 sc1 sc2 sc3 sc4 sc5 xc0 xc1 xc2 xc3 xc4 xc5 yc0 yc1 yc2 yc3 yc4 yc5 pc0 pc1 pc2 pc3 pc4 pc5 qc0 qc1 qc2 qc3 qc4 qc5; obtain ⟨sc0, sc1, sc2, sc3, sc4, sc5⟩ := sup_cells S2.out; obtain ⟨xc0, xc1, xc2, xc3, xc4, xc5⟩ := sup_cells X5.out; obtain ⟨yc0, yc1, yc2, yc3, yc4, yc5⟩ := sup_cells Y7.out; obtain ⟨pc0, pc1, pc2, pc3, pc4, pc5⟩ := sup_cells P9.out; obtain ⟨qc0, qc1, qc2, qc3, qc4, qc5⟩ := sup_cells Q11.out))
  go_wp2_with fail
  go_ret
  exact ⟨by simp, KK.out⟩
theorem SuperMakesR (w : World) (a0 : Int) (_ : (Lit.int .i64 a0).wf = true) (a1 : Int) (_ : (Lit.int .i64 a1).wf = true) (a2 : Int) (_ : (Lit.int .i64 a2).wf = true) (a3 : Int) (_ : (Lit.int .i64 a3).wf = true) (a4 : Int) (_ : (Lit.int .i64 a4).wf = true) (a5 : Int) (_ : (Lit.int .i64 a5).wf = true) (h : Int) (_ : (Lit.int .i64 h).wf = true) : Calls Try.prog 3 #[.agg #[.int .i64 a0, .int .i64 a1, .int .i64 a2, .int .i64 a3, .int .i64 a4, .int .i64 a5], .int .i64 h] w fun e w' => e = .returned (.bool true) ∧ Below w.heap.size w w' :=
  SuperMakes w a0 a1 a2 a3 a4 a5 h
end Go.Proofs.Ytojolpamgijcbaa.Pure
