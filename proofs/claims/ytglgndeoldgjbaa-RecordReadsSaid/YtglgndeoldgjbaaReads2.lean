/- What the document's answer reads of a sector: Take and Lsn, walked. -/
import Derived.Test.YtglgndeoldgjbaaReads
import Derived.Deep.RegionHeld3
import Derived.RangeFuncRecord
namespace Go.Proofs.Ytglgndeoldgjbaa.Pure
open Go.RowKit Go.Proofs.Ytglgndeoldgjbaa Go.Proofs.Ytglgndeoldgjbaa.PTwo Go.Proofs.Ytglgndeoldgjbaa.Mem Go.Proofs.YtglgndeoldgjbaaW.PrintWords Go.Proofs.YtglgndeoldgjbaaW.PrintLast Go.Proofs.YtglgndeoldgjbaaW.PrintMore
attribute [local go_sem] max2_int min2_int max_two min_two
set_option linter.unusedVariables false
set_option linter.unusedSimpArgs false
set_option linter.unusedSectionVars false

section
variable {w : World} {A : Option Addr} {c : Nat} {l : List Int} (hC : Kd.C (Kd.int .u8) w A l.length l) (hc : l.length ≤ c) (hb : Bytes l) (hl : l.length ≤ 140737488351232)
include hC hc hb hl
abbrev zr : Obj := .cells #[.int .i64 0, .int .i64 0, .int .i64 0, .slice none 0 0, .int .i64 0] 24
set_option maxRecDepth 100000 in
set_option maxHeartbeats 4000000 in
theorem rlsn_c {r1 r2 : Int} (h : LsnSays l r1 r2) : Calls Try.prog 21 #[.slice A l.length c] w fun e w' => e = .returned (.tuple #[.int .i64 r1, .int .i64 r2]) ∧ Below w.heap.size w w' := by
  obtain ⟨a0, a1, a2, data, a4, lsn, is, hdb, hdl, hp, hcall⟩ := rparse_c hC hc hb hl
  have HP := Aside0.mk hp
  have HH := Aside0.mk h
  have HX := Aside0.mk hcall
  clear hC hc hb hl hp h hcall hdb hdl
  go_enter Try.func21, Try.ntmps21
  go_wp2_with fail
  refine HX.out.mono ?_
  rintro e w1 ⟨B, k, rfl, hD, hb1⟩
  have K1 := Aside0.mk ((hb1.alloc hb1.size (.cells #[.int .i64 a0, .int .i64 a1, .int .i64 a2, .slice B data.length k, .int .i64 a4] 24)))
  clear hb1 hD
  cases is
  case true =>
    have e2 : r1 = lsn ∧ r2 = 0 := by
      rcases HH.out with ⟨h1, kd, b, o, d, m, hs⟩ | ⟨_, _, hn⟩
      · rcases HP.out with ⟨_, hs2⟩ | ⟨hq, _⟩
        · exact ⟨(says_one hs hs2).1, h1⟩
        · cases hq
      · rcases HP.out with ⟨_, hs2⟩ | ⟨hq, _⟩
        · exact absurd hs2 (hn _ _ _ _ _ _)
        · cases hq
    obtain ⟨rfl, rfl⟩ := e2
    go_wp2_with fail
    go_ret2
    exact ⟨rfl, K1.out⟩
  case false =>
    have e2 : r1 = 0 ∧ r2 = 61 := by
      rcases HH.out with ⟨h1, kd, b, o, d, m, hs⟩ | ⟨h1, h2, hn⟩
      · rcases HP.out with ⟨hq, _⟩ | ⟨_, hn⟩
        · cases hq
        · exact absurd hs (hn _ _ _ _ _ _)
      · exact ⟨h1, h2⟩
    obtain ⟨rfl, rfl⟩ := e2
    go_wp2_with fail
    go_ret2
    exact ⟨rfl, K1.out⟩
set_option maxRecDepth 100000 in
set_option maxHeartbeats 4000000 in
theorem rtake_c {p r1 r2 r3 r5 r6 : Int} {r4 : List Int} (h : TakeSays l p r1 r2 r3 r4 r5 r6) : Calls Try.prog 19 #[.slice A l.length c, .int .i64 p] w fun e w' => ∃ B k, e = .returned (.tuple #[.agg #[.int .i64 r1, .int .i64 r2, .int .i64 r3, .slice B r4.length k, .int .i64 r5], .int .i64 r6]) ∧ Own w' w.heap.size B k r4 ∧ Below w.heap.size w w' := by
  have hu24 := Try.underlying24
  by_cases hin : 0 ≤ p ∧ p ≤ 2305843009213693952
  case neg =>
    have e2 : r1 = 0 ∧ r2 = 0 ∧ r3 = 0 ∧ r4 = [] ∧ r5 = 0 ∧ r6 = 1 := by
      rcases h with ⟨h1, h2, _⟩ | ⟨h1, h2, _⟩ | h
      · exact absurd ⟨h1, h2⟩ hin
      · exact absurd ⟨h1, h2⟩ hin
      · exact h.2
    obtain ⟨rfl, rfl, rfl, rfl, rfl, rfl⟩ := e2
    have K0 := Aside0.mk (Below.refl w.heap.size w)
    clear hC hc hb hl h
    by_cases hlt : p < 0
    case pos =>
      have hgd : decide (p < 0) = true := decide_eq_true hlt
      clear hin hlt
      go_enter Try.func19, Try.ntmps19
      go_wp2_with fail
      refine bodyPost_ret (results_ct rfl _ _ w.heap.size 24 #[.int .i64 0, .int .i64 0, .int .i64 0, .slice none 0 0, .int .i64 0] (0, 0) _ rfl (heap_new _ _) Try.underlying24 rfl (by kernel_rfl)) rfl ?_
      exact ⟨none, 0, rfl, own_nil _ _, K0.out.alloc (Nat.le_refl _) _⟩
    have hgd : decide (p < 0) = false := decide_eq_false hlt
    have hge : decide (p > 2305843009213693952) = true := decide_eq_true (by omega)
    have hgf : decide (2305843009213693952 < p) = true := decide_eq_true (by omega)
    clear hin hlt
    go_enter Try.func19, Try.ntmps19
    go_wp2_with fail
    refine bodyPost_ret (results_ct rfl _ _ w.heap.size 24 #[.int .i64 0, .int .i64 0, .int .i64 0, .slice none 0 0, .int .i64 0] (0, 0) _ rfl (heap_new _ _) Try.underlying24 rfl (by kernel_rfl)) rfl ?_
    exact ⟨none, 0, rfl, own_nil _ _, K0.out.alloc (Nat.le_refl _) _⟩
  have hgd : decide (p < 0) = false := decide_eq_false (by omega)
  have hge : decide (p > 2305843009213693952) = false := decide_eq_false (by omega)
  have hgf : decide (2305843009213693952 < p) = false := decide_eq_false (by omega)
  obtain ⟨a0, a1, a2, data, a4, lsn, is, hdb, hdl, hp, hcall⟩ := rparse_c (w := w.alloc (.cells #[.int .i64 0, .int .i64 0, .int .i64 0, .slice none 0 0, .int .i64 0] 24)) (Kd.C_alloc hC _) hc hb hl
  have HP := Aside0.mk hp
  have HH := Aside0.mk h
  have HX := Aside0.mk hcall
  have HI := Aside0.mk hin
  clear hC hc hb hl hp h hcall hdb hdl hin
  go_enter Try.func19, Try.ntmps19
  go_wp2_with fail
  refine HX.out.mono ?_
  rintro e w1 ⟨B, k, rfl, hD, hb1⟩
  obtain ⟨o2, ho2⟩ : ∃ o, o = Obj.cells #[.int .i64 a0, .int .i64 a1, .int .i64 a2, .slice B data.length k, .int .i64 a4] 24 := ⟨_, rfl⟩
  have K1 := Aside0.mk ((((Below.refl w.heap.size w).alloc (Nat.le_refl _) (.cells #[.int .i64 0, .int .i64 0, .int .i64 0, .slice none 0 0, .int .i64 0] 24)).trans (hb1.mono (by simp))))
  have B1 := Aside0.mk ((hb1.block _ (by simp)).trans (heap_new w (.cells #[.int .i64 0, .int .i64 0, .int .i64 0, .slice none 0 0, .int .i64 0] 24)))
  have K2 := Aside0.mk (K1.out.alloc K1.out.size o2)
  have B2 := Aside0.mk ((Below.heap_alloc w1 o2 w.heap.size (blk_lt B1.out)).trans B1.out)
  have R2 := Aside0.mk (heap_new w1 o2)
  have D2 := Aside0.mk (own_below hD ((Below.refl w1.heap.size w1).alloc (Nat.le_refl _) o2))
  have NE := Aside0.mk (show w.heap.size < w1.heap.size from blk_lt B1.out)
  subst ho2
  clear hb1 hD hgd hge hgf
  obtain ⟨z0, z1, z2, z3, z4⟩ := rec_cells B2.out
  have y0 := blk_frozen B2.out 0
  have y1 := blk_frozen B2.out 1
  have y2 := blk_frozen B2.out 2
  have y3 := blk_frozen B2.out 3
  have y4 := blk_frozen B2.out 4
  by_cases hok : is = true ∧ lsn = p
  case pos =>
    obtain ⟨rfl, rfl⟩ := hok
    have hs2 : Says l lsn a0 a1 a2 data a4 := by
      rcases HP.out with ⟨_, hs2⟩ | ⟨hq, _⟩
      · exact hs2
      · cases hq
    have e2 : a0 = r1 ∧ a1 = r2 ∧ a2 = r3 ∧ data = r4 ∧ a4 = r5 ∧ r6 = 0 := by
      rcases HH.out with ⟨_, _, hs, h6⟩ | ⟨_, _, hn, _⟩ | ⟨hn, _⟩
      · have h7 := says_one hs2 hs
        exact ⟨h7.2.1, h7.2.2.1, h7.2.2.2.1, h7.2.2.2.2.1, h7.2.2.2.2.2, h6⟩
      · exact absurd hs2 (hn _ _ _ _ _)
      · exact absurd HI.out hn
    obtain ⟨rfl, rfl, rfl, rfl, rfl, rfl⟩ := e2
    clear hs2
    have hnn : (lsn != lsn) = false := by simp
    go_wp2_with fail
    obtain ⟨hs, hk⟩ := set5 B2.out K2.out (Nat.le_refl _) (.int .i64 a0) (.int .i64 a1) (.int .i64 a2) (.slice B data.length k) (.int .i64 a4)
    refine bodyPost_ret (results_ct rfl _ _ w.heap.size 24 #[.int .i64 a0, .int .i64 a1, .int .i64 a2, .slice B data.length k, .int .i64 a4] (0, 0) _ rfl hs Try.underlying24 rfl (by kernel_rfl)) rfl ?_
    have SO := only5 w.heap.size (w1.alloc (.cells #[.int .i64 a0, .int .i64 a1, .int .i64 a2, .slice B data.length k, .int .i64 a4] 24)) (.int .i64 a0) (.int .i64 a1) (.int .i64 a2) (.slice B data.length k) (.int .i64 a4)
    refine ⟨B, k, rfl, own_lower (own_kept D2.out (fun g h1 h2 => SO.block g ?_)) (by simp), hk⟩
    have := (own_lt D2.out g h1 h2).1
    simp at this
    omega
  have e2 : r1 = 0 ∧ r2 = 0 ∧ r3 = 0 ∧ r4 = [] ∧ r5 = 0 ∧ r6 = 61 := by
    rcases HH.out with ⟨_, _, hs, h6⟩ | ⟨_, _, hn, h⟩ | ⟨hn, _⟩
    · rcases HP.out with ⟨h7, hs2⟩ | ⟨_, hn⟩
      · exact absurd ⟨h7, (says_one hs2 hs).1⟩ hok
      · exact absurd hs (hn _ _ _ _ _ _)
    · exact h
    · exact absurd HI.out hn
  obtain ⟨rfl, rfl, rfl, rfl, rfl, rfl⟩ := e2
  have fin : ∀ w' : World, w' = (((((w1.alloc (.cells #[.int .i64 a0, .int .i64 a1, .int .i64 a2, .slice B data.length k, .int .i64 a4] 24)).setCell ⟨w.heap.size, 0, none⟩ (.int .i64 0)).setCell ⟨w.heap.size, 1, none⟩ (.int .i64 0)).setCell ⟨w.heap.size, 2, none⟩ (.int .i64 0)).setCell ⟨w.heap.size, 3, none⟩ (.slice none 0 0)).setCell ⟨w.heap.size, 4, none⟩ (.int .i64 0) →
      w'.heap[w.heap.size]? = some (.cells #[.int .i64 0, .int .i64 0, .int .i64 0, .slice none 0 0, .int .i64 0] 24 (0, 0)) ∧ Below w.heap.size w w' := fun w' hw' => by
    rw [hw']
    exact set5 B2.out K2.out (Nat.le_refl _) (.int .i64 0) (.int .i64 0) (.int .i64 0) (.slice none 0 0) (.int .i64 0)
  have FIN := Aside0.mk fin
  clear fin
  cases is
  case false =>
    clear hok
    go_wp2_with fail
    obtain ⟨hs, hk⟩ := FIN.out _ rfl
    refine bodyPost_ret (results_ct rfl _ _ w.heap.size 24 #[.int .i64 0, .int .i64 0, .int .i64 0, .slice none 0 0, .int .i64 0] (0, 0) _ rfl hs Try.underlying24 rfl (by kernel_rfl)) rfl ?_
    exact ⟨none, 0, rfl, own_nil _ _, hk⟩
  case true =>
    have hne : lsn ≠ p := fun h => hok ⟨rfl, h⟩
    have hnn : (lsn != p) = true := by simpa using hne
    clear hok
    go_wp2_with fail
    obtain ⟨hs, hk⟩ := FIN.out _ rfl
    refine bodyPost_ret (results_ct rfl _ _ w.heap.size 24 #[.int .i64 0, .int .i64 0, .int .i64 0, .slice none 0 0, .int .i64 0] (0, 0) _ rfl hs Try.underlying24 rfl (by kernel_rfl)) rfl ?_
    exact ⟨none, 0, rfl, own_nil _ _, hk⟩
end
end Go.Proofs.Ytglgndeoldgjbaa.Pure
