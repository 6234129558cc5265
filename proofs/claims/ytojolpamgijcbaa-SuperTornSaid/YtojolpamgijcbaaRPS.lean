/- A block's super, by the document's answer: its walk. -/
import Derived.Test.YtojolpamgijcbaaPS
import Derived.Test.YtojolpamgijcbaaRSB
import Derived.Test.YtojolpamgijcbaaPAllx10
import Derived.Deep.RegionHeld3
namespace Go.Proofs.Ytojolpamgijcbaa.Pure
open Go.RowKit Go.Proofs.Ytojolpamgijcbaa Go.Proofs.Ytojolpamgijcbaa.PAll Go.Proofs.Ytojolpamgijcbaa.PGt Go.Proofs.Ytojolpamgijcbaa.Mem Go.Proofs.YtojolpamgijcbaaW.PrintWords Go.Proofs.YtojolpamgijcbaaW.PrintLast Go.Proofs.YtojolpamgijcbaaW.PrintMore
set_option linter.unusedVariables false
set_option linter.unusedSimpArgs false

theorem same_l0 (x y : List Int) (hl : x.length = y.length) (hb : x.length ≤ 100000) : ∀ (d k i : Nat), i + d = x.length → d < k → atticref01_Same.l0 k x y i = some (decide (x.drop i = y.drop i))
  | 0, k, i, hi, hk => by
    obtain ⟨k, rfl⟩ : ∃ m, k = m + 1 := ⟨k - 1, by omega⟩
    rw [atticref01_Same.l0, if_neg (by omega), List.drop_of_length_le (by omega), List.drop_of_length_le (by omega)]
    simp
  | d + 1, k, i, hi, hk => by
    obtain ⟨k, rfl⟩ : ∃ m, k = m + 1 := ⟨k - 1, by omega⟩
    have h1 : i < x.length := by omega
    have h2 : i < y.length := by omega
    rw [atticref01_Same.l0, if_pos (by omega), if_pos (by omega), if_pos (by omega), rd_nat h1, rd_nat h2, List.drop_eq_getElem_cons h1, List.drop_eq_getElem_cons h2]
    by_cases h : x[i] = y[i]
    · rw [if_pos h, w64id (by omega) (by omega)]
      have := same_l0 x y hl hb d k (i + 1) (by omega) (by omega)
      rw [Int.natCast_succ] at this
      rw [this, h]
      exact congrArg some (decide_eq_decide.2 ⟨fun e => by rw [e], fun e => by injection e⟩)
    · rw [if_neg h, decide_eq_false]
      intro e
      injection e with e1 e2
      exact h e1
theorem six_rel {w W : World} {g5 : Nat} {a0 a1 a2 a3 a4 a5 : Value} {t : TypeId} {o : Obj} (hT : W.heap[g5]? = some (.cells #[a0, a1, a2, a3, a4, a5] t (0, 0))) (hK : Below w.heap.size w W) (hg : w.heap.size < g5) (hG : W.heap[w.heap.size]? = some o) (v0 v1 v2 v3 v4 v5 : Value) :
    ((((((W.setCell ⟨g5, 0, none⟩ v0).setCell ⟨g5, 1, none⟩ v1).setCell ⟨g5, 2, none⟩ v2).setCell ⟨g5, 3, none⟩ v3).setCell ⟨g5, 4, none⟩ v4).setCell ⟨g5, 5, none⟩ v5).heap[g5]? = some (.cells #[v0, v1, v2, v3, v4, v5] t (0, 0)) ∧
    ((((((W.setCell ⟨g5, 0, none⟩ v0).setCell ⟨g5, 1, none⟩ v1).setCell ⟨g5, 2, none⟩ v2).setCell ⟨g5, 3, none⟩ v3).setCell ⟨g5, 4, none⟩ v4).setCell ⟨g5, 5, none⟩ v5).heap[w.heap.size]? = some o ∧
    Below w.heap.size w ((((((W.setCell ⟨g5, 0, none⟩ v0).setCell ⟨g5, 1, none⟩ v1).setCell ⟨g5, 2, none⟩ v2).setCell ⟨g5, 3, none⟩ v3).setCell ⟨g5, 4, none⟩ v4).setCell ⟨g5, 5, none⟩ v5) := by
  have h := set6 hT hK (Nat.le_of_lt hg) v0 v1 v2 v3 v4 v5
  refine ⟨h.1, ?_, h.2⟩
  rw [Below.heap_setCell _ _ _ _ (Nat.ne_of_lt hg), Below.heap_setCell _ _ _ _ (Nat.ne_of_lt hg), Below.heap_setCell _ _ _ _ (Nat.ne_of_lt hg), Below.heap_setCell _ _ _ _ (Nat.ne_of_lt hg), Below.heap_setCell _ _ _ _ (Nat.ne_of_lt hg), Below.heap_setCell _ _ _ _ (Nat.ne_of_lt hg)]
  exact hG
theorem geo_cells {w : World} {g : Nat} {a0 a1 a2 a3 : Int} {t : TypeId} (h : w.heap[g]? = some (.cells #[.int .i64 a0, .int .i64 a1, .int .i64 a2, .int .i64 a3] t (0, 0))) :
    w.cell? ⟨g, 0, none⟩ = some (.int .i64 a0) ∧ w.cell? ⟨g, 1, none⟩ = some (.int .i64 a1) ∧ w.cell? ⟨g, 2, none⟩ = some (.int .i64 a2) ∧ w.cell? ⟨g, 3, none⟩ = some (.int .i64 a3) := by
  refine ⟨?_, ?_, ?_, ?_⟩ <;> (unfold World.cell?; simp only [h]; rfl)
theorem same_c {w : World} {A B : Option Addr} {c d : Nat} {x y : List Int} (hC : Kd.C (Kd.int .u8) w A x.length x) (hc : x.length ≤ c) (hD : Kd.C (Kd.int .u8) w B y.length y) (hd : y.length ≤ d) (hl : x.length = y.length) (hb : x.length ≤ 1000) :
    Calls Try.prog 35 #[.slice A x.length c, .slice B y.length d] w fun e w' => e = .returned (.bool (decide (x = y))) ∧ Below w.heap.size w w' := by
  have h := same_l0 x y hl (by omega) x.length 2000 0 (by omega) (by omega)
  refine (atticref01_Same.calls 2000 A c x B d y _ w hC hc hD hd (by unfold atticref01_Same.f; rw [if_pos (by omega)]; exact h)).mono ?_
  rintro e w' ⟨rfl, hb⟩
  exact ⟨rfl, drawn_below hb⟩
theorem num34_c {w : World} {A : Option Addr} {c p n : Nat} {l : List Int} (hC : Kd.C (Kd.int .u8) w A l.length l) (hc : l.length ≤ c) (hb : Bytes l) (hl : l.length = 256) (hn : 1 ≤ n ∧ n ≤ 8) (hp : p + n ≤ 256) {v : Int} (hv : wrap64 (getL l p n : Int) = v) :
    Calls Try.prog 34 #[.slice A 256 c, .int .i64 p, .int .i64 n] w fun e w' => e = .returned (.int .i64 v) ∧ Below w.heap.size w w' := by
  have h := atticref05_num.calls 10 A c l p n v w hC hc (by unfold atticref05_num.f; rw [(get_f 10 l p n hb (by omega) (by decide)).2, Option.bind_some]; unfold getA; rw [if_neg (by omega), Int.toNat_natCast, Int.toNat_natCast, hv])
  rw [hl] at h
  refine h.mono ?_
  rintro e w' ⟨rfl, hb⟩
  exact ⟨rfl, drawn_below hb⟩
theorem num34_8 {w : World} {A : Option Addr} {c : Nat} {l : List Int} (hC : Kd.C (Kd.int .u8) w A l.length l) (hc : l.length ≤ c) (hb : Bytes l) (hl : l.length = 256) {v : Int} (hv : wrap64 (getL l 8 8 : Int) = v) :
    Calls Try.prog 34 #[.slice A 256 c, .int .i64 8, .int .i64 8] w fun e w' => e = .returned (.int .i64 v) ∧ Below w.heap.size w w' := num34_c (p := 8) (n := 8) hC hc hb hl (by decide) (by decide) hv
theorem num34_32 {w : World} {A : Option Addr} {c : Nat} {l : List Int} (hC : Kd.C (Kd.int .u8) w A l.length l) (hc : l.length ≤ c) (hb : Bytes l) (hl : l.length = 256) {v : Int} (hv : wrap64 (getL l 32 8 : Int) = v) :
    Calls Try.prog 34 #[.slice A 256 c, .int .i64 32, .int .i64 8] w fun e w' => e = .returned (.int .i64 v) ∧ Below w.heap.size w w' := num34_c (p := 32) (n := 8) hC hc hb hl (by decide) (by decide) hv
set_option maxRecDepth 100000 in
theorem parse_len {w : World} {A : Option Addr} {c : Nat} {l : List Int} (hl : l.length ≠ 256) (hlm : l.length ≤ 140737488351232) : Calls Try.prog 19 #[.slice A l.length c] w fun e w' => e = .returned (.tuple #[.agg #[.int .i64 0, .int .i64 0, .int .i64 0, .int .i64 0, .int .i64 0, .int .i64 0], .int .i64 50]) ∧ Below w.heap.size w w' := by
  have hu25 := Try.underlying25
  have hu23 := Try.underlying23
  have K0 := Aside0.mk ((Below.refl w.heap.size w).alloc (Nat.le_refl _) (.cells (supCs 0 0 0 0 0 0) 25))
  have hgd : decide ((l.length : Int) = 256) = false := decide_eq_false (by omega)
  have hgd2 : decide (l.length = 256) = false := decide_eq_false hl
  have hlI : (l.length : Int) ≤ 140737488351232 := by omega
  clear hlm
  go_enter Try.func19, Try.ntmps19
  go_wp2_with fail
  refine bodyPost_ret (results_ct rfl _ _ w.heap.size 25 #[.int .i64 0, .int .i64 0, .int .i64 0, .int .i64 0, .int .i64 0, .int .i64 0] (0, 0) _ rfl (heap_new _ _) Try.underlying25 rfl (by kernel_rfl)) rfl ?_
  exact ⟨rfl, K0.out⟩
set_option maxRecDepth 100000 in
theorem rparse_len {w : World} {A : Option Addr} {c : Nat} {l : List Int} (hl : l.length ≠ 256) (hlm : l.length ≤ 140737488351232) : Calls Try.prog 20 #[.slice A l.length c] w fun e w' => e = .returned (.tuple #[.agg #[.int .i64 0, .int .i64 0, .int .i64 0, .int .i64 0, .int .i64 0, .int .i64 0], .int .i64 50]) ∧ Below w.heap.size w w' := by
  have hu25 := Try.underlying25
  have hu23 := Try.underlying23
  have K0 := Aside0.mk ((Below.refl w.heap.size w).alloc (Nat.le_refl _) (.cells (supCs 0 0 0 0 0 0) 25))
  have hgd : decide ((l.length : Int) = 256) = false := decide_eq_false (by omega)
  have hgd2 : decide (l.length = 256) = false := decide_eq_false hl
  have hlI : (l.length : Int) ≤ 140737488351232 := by omega
  clear hlm
  go_enter Try.func20, Try.ntmps20
  go_wp2_with fail
  refine bodyPost_ret (results_ct rfl _ _ w.heap.size 25 #[.int .i64 0, .int .i64 0, .int .i64 0, .int .i64 0, .int .i64 0, .int .i64 0] (0, 0) _ rfl (heap_new _ _) Try.underlying25 rfl (by kernel_rfl)) rfl ?_
  exact ⟨rfl, K0.out⟩
set_option maxRecDepth 100000 in
set_option maxHeartbeats 16000000 in
theorem rparse_c {w : World} {A : Option Addr} {c : Nat} {l : List Int} (hC : Kd.C (Kd.int .u8) w A l.length l) (hc : l.length ≤ c) (hb : Bytes l) (hl : l.length = 256)
    (x0 x1 x2 x3 x4 x5 : Int) (h0 : wrap64 (getL l 8 8 : Int) = x0) (h1 : wrap64 (getL l 16 4 : Int) = x1) (h2 : wrap64 (getL l 20 4 : Int) = x2) (h3 : wrap64 (getL l 24 4 : Int) = x3) (h4 : wrap64 (getL l 28 4 : Int) = x4) (h5 : wrap64 (getL l 32 8 : Int) = x5)
    (ck : Int) (hck : atticref05_Check.f 1 x0 x1 x2 x3 x4 x5 = some ck) (hck2 : super_Check.f x0 x1 x2 x3 x4 x5 = some ck) (y0 y1 y2 y3 y4 y5 ey : Int)
    (hy : (ck = 0 ∧ supB x0 x1 x2 x3 x4 x5 = l ∧ y0 = x0 ∧ y1 = x1 ∧ y2 = x2 ∧ y3 = x3 ∧ y4 = x4 ∧ y5 = x5 ∧ ey = 0) ∨ (¬ (ck = 0 ∧ supB x0 x1 x2 x3 x4 x5 = l) ∧ y0 = 0 ∧ y1 = 0 ∧ y2 = 0 ∧ y3 = 0 ∧ y4 = 0 ∧ y5 = 0 ∧ ey = 50)) :
    Calls Try.prog 20 #[.slice A l.length c] w fun e w' => e = .returned (.tuple #[.agg #[.int .i64 y0, .int .i64 y1, .int .i64 y2, .int .i64 y3, .int .i64 y4, .int .i64 y5], .int .i64 ey]) ∧ Below w.heap.size w w' := by
  have hu25 := Try.underlying25
  have hu23 := Try.underlying23
  have HY := Aside0.mk hy
  have CK := Aside0.mk hck
  have CK2 := Aside0.mk hck2
  have H0 := Aside0.mk h0
  have H1 := Aside0.mk h1
  have H2 := Aside0.mk h2
  have H3 := Aside0.mk h3
  have H4 := Aside0.mk h4
  have H5 := Aside0.mk h5
  have HB := Aside0.mk hb
  have HL := Aside0.mk hl
  have CO := Aside0.mk hC
  have K0 := Aside0.mk ((Below.refl w.heap.size w).alloc (Nat.le_refl _) (.cells (supCs 0 0 0 0 0 0) 25))
  have G0 := Aside0.mk (heap_new w (.cells (supCs 0 0 0 0 0 0) 25))
  have C0 := Aside0.mk (Kd.C_below hC K0.out)
  clear hy hck hck2 h0 h1 h2 h3 h4 h5 hC hb
  go_enter Try.func20, Try.ntmps20
  go_wp2_with fail
  refine (num34_c (p := 16) (n := 4) C0.out hc HB.out HL.out (by decide) (by decide) H1.out).mono ?_
  rintro e w1 ⟨rfl, hb⟩
  have K1 := Aside0.mk (K0.out.trans (hb.mono K0.out.size))
  have G1 := Aside0.mk ((hb.block _ (blk_lt G0.out)).trans G0.out)
  have C1 := Aside0.mk (Kd.C_below C0.out hb)
  clear hb
  go_wp2_with fail
  refine (num34_c (p := 20) (n := 4) C1.out hc HB.out HL.out (by decide) (by decide) H2.out).mono ?_
  rintro e w2 ⟨rfl, hb⟩
  have K2 := Aside0.mk (K1.out.trans (hb.mono K1.out.size))
  have G2 := Aside0.mk ((hb.block _ (blk_lt G1.out)).trans G1.out)
  have C2 := Aside0.mk (Kd.C_below C1.out hb)
  clear hb
  go_wp2_with fail
  refine (num34_c (p := 24) (n := 4) C2.out hc HB.out HL.out (by decide) (by decide) H3.out).mono ?_
  rintro e w3 ⟨rfl, hb⟩
  have K3 := Aside0.mk (K2.out.trans (hb.mono K2.out.size))
  have G3 := Aside0.mk ((hb.block _ (blk_lt G2.out)).trans G2.out)
  have C3 := Aside0.mk (Kd.C_below C2.out hb)
  clear hb
  go_wp2_with fail
  refine (num34_c (p := 28) (n := 4) C3.out hc HB.out HL.out (by decide) (by decide) H4.out).mono ?_
  rintro e w4 ⟨rfl, hb⟩
  have K4 := Aside0.mk (K3.out.trans (hb.mono K3.out.size))
  have G4 := Aside0.mk ((hb.block _ (blk_lt G3.out)).trans G3.out)
  have C4 := Aside0.mk (Kd.C_below C3.out hb)
  clear hb
  have hd : Below w4.heap.size w4 (w4.alloc (.cells #[.int .i64 x1, .int .i64 x2, .int .i64 x3, .int .i64 x4] 23)) := (Below.refl w4.heap.size w4).alloc (Nat.le_refl _) _
  have Q5 := Aside0.mk (show (w4.alloc (.cells #[.int .i64 x1, .int .i64 x2, .int .i64 x3, .int .i64 x4] 23)).heap[w4.heap.size]? = some (.cells #[.int .i64 x1, .int .i64 x2, .int .i64 x3, .int .i64 x4] 23 (0, 0)) from heap_new w4 _)
  have K5 := Aside0.mk (K4.out.trans (hd.mono K4.out.size))
  have G5 := Aside0.mk ((hd.block _ (blk_lt G4.out)).trans G4.out)
  have C5 := Aside0.mk (Kd.C_below C4.out hd)
  clear hd
  go_upto_region 4 with fail
  generalize w4.heap.size = g4 at Q5 ⊢
  generalize w4.alloc (.cells #[.int .i64 x1, .int .i64 x2, .int .i64 x3, .int .i64 x4] 23) = w5 at K5 G5 C5 Q5 ⊢
  clear K4 G4 C4 K3 G3 C3 K2 G2 C2 K1 G1 C1
  go_cut [5] from 21 to 26 (fun v5 w' => ∃ g5, v5 = .pointer (some ⟨g5, 0, none⟩) ∧ Aside0 (w'.heap[g5]? = some (.cells (supCs x0 x1 x2 x3 x4 x5) 25 (0, 0))) ∧ Aside0 (w'.heap[w.heap.size]? = some (.cells (supCs 0 0 0 0 0 0) 25 (0, 0))) ∧ Aside0 (Below w.heap.size w w'))
  case first =>
    have hba := below_drew ((Below.refl w5.heap.size w5).alloc (Nat.le_refl _) (.cells (supCs 0 0 0 0 0 0) 25))
    have KA := Aside0.mk (K5.out.trans (hba.mono K5.out.size))
    have GA := Aside0.mk ((hba.block _ (blk_lt G5.out)).trans G5.out)
    have QA := Aside0.mk ((hba.block _ (blk_lt Q5.out)).trans Q5.out)
    have CA := Aside0.mk (Kd.C_below C5.out hba)
    have TA := Aside0.mk (show (w5.alloc (.cells (supCs 0 0 0 0 0 0) 25)).drew.heap[w5.heap.size]? = some (.cells (supCs 0 0 0 0 0 0) 25 (0, 0)) from heap_new w5 _)
    have NW5 := Aside0.mk (show w.heap.size < w5.heap.size from blk_lt G5.out)
    have NQ5 := Aside0.mk (show g4 < w5.heap.size from blk_lt Q5.out)
    obtain ⟨r0, r1, r2, r3⟩ := geo_cells QA.out
    have hbn := below_drew (Below.refl w5.heap.size w5)
    clear hba
    replace K5 := Aside0.mk (K5.out.trans (hbn.mono K5.out.size))
    replace G5 := Aside0.mk ((hbn.block _ (blk_lt G5.out)).trans G5.out)
    replace C5 := Aside0.mk (Kd.C_below C5.out hbn)
    replace Q5 := Aside0.mk ((hbn.block _ (blk_lt Q5.out)).trans Q5.out)
    clear hbn
    obtain ⟨q0, q1, q2, q3⟩ := geo_cells Q5.out
    go_region_held3 (fun w' => w'.cell? ⟨g4, 0, none⟩ = some (.int .i64 x1) ∧ w'.cell? ⟨g4, 1, none⟩ = some (.int .i64 x2) ∧ w'.cell? ⟨g4, 2, none⟩ = some (.int .i64 x3) ∧ w'.cell? ⟨g4, 3, none⟩ = some (.int .i64 x4)) (go_keep)
      (first
        | (go_at_call 34; have hh_ := H0.out; have tt_ := T5.out; clear tt_; clear hh_; refine (num34_8 C5.out hc HB.out HL.out H0.out).mono ?_; rintro e wn ⟨rfl, hbn⟩; replace K5 := Aside0.mk (K5.out.trans (hbn.mono K5.out.size)); replace G5 := Aside0.mk ((hbn.block _ (blk_lt G5.out)).trans G5.out); replace C5 := Aside0.mk (Kd.C_below C5.out hbn); replace Q5 := Aside0.mk ((hbn.block _ (blk_lt Q5.out)).trans Q5.out); replace T5 := Aside0.mk ((hbn.block _ (blk_lt T5.out)).trans T5.out); clear t0 t1 t2 t3 t4 t5 u0 u1 u2 u3 u4 u5; obtain ⟨t0, t1, t2, t3, t4, t5⟩ := sup_cells T5.out; have u0 := blk_frozen T5.out 0; have u1 := blk_frozen T5.out 1; have u2 := blk_frozen T5.out 2; have u3 := blk_frozen T5.out 3; have u4 := blk_frozen T5.out 4; have u5 := blk_frozen T5.out 5; clear hbn H0; clear q0 q1 q2 q3; obtain ⟨q0, q1, q2, q3⟩ := geo_cells Q5.out)
        | (go_at_call 34; have hh_ := H0.out; clear hh_; refine (num34_8 C5.out hc HB.out HL.out H0.out).mono ?_; rintro e wn ⟨rfl, hbn⟩; replace K5 := Aside0.mk (K5.out.trans (hbn.mono K5.out.size)); replace G5 := Aside0.mk ((hbn.block _ (blk_lt G5.out)).trans G5.out); replace C5 := Aside0.mk (Kd.C_below C5.out hbn); replace Q5 := Aside0.mk ((hbn.block _ (blk_lt Q5.out)).trans Q5.out); have NW := Aside0.mk (show w.heap.size < wn.heap.size from Nat.lt_of_lt_of_le (blk_lt G5.out) (Nat.le_refl _)); clear hbn H0; clear q0 q1 q2 q3; obtain ⟨q0, q1, q2, q3⟩ := geo_cells Q5.out)
        | (go_at_call 34; have hh_ := H0.out; clear hh_; refine (num34_8 CA.out hc HB.out HL.out H0.out).mono ?_; rintro e wz ⟨rfl, hbn⟩; have NW := NW5; have NQ := NQ5; have T5 := Aside0.mk ((hbn.block _ (blk_lt TA.out)).trans TA.out); clear K5 G5 Q5 C5 q0 q1 q2 q3; have K5 := Aside0.mk (KA.out.trans (hbn.mono KA.out.size)); have G5 := Aside0.mk ((hbn.block _ (blk_lt GA.out)).trans GA.out); have Q5 := Aside0.mk ((hbn.block _ (blk_lt QA.out)).trans QA.out); have C5 := Aside0.mk (Kd.C_below CA.out hbn); have n1 := Nat.ne_of_lt NQ.out; have n2 := Nat.ne_of_gt NQ.out; obtain ⟨t0, t1, t2, t3, t4, t5⟩ := sup_cells T5.out; have u0 := blk_frozen T5.out 0; have u1 := blk_frozen T5.out 1; have u2 := blk_frozen T5.out 2; have u3 := blk_frozen T5.out 3; have u4 := blk_frozen T5.out 4; have u5 := blk_frozen T5.out 5; clear hbn H0; obtain ⟨q0, q1, q2, q3⟩ := geo_cells Q5.out)
        | (go_at_call 34; have hh_ := H5.out; have tt_ := T5.out; clear tt_; clear hh_; refine (num34_32 C5.out hc HB.out HL.out H5.out).mono ?_; rintro e wn ⟨rfl, hbn⟩; replace K5 := Aside0.mk (K5.out.trans (hbn.mono K5.out.size)); replace G5 := Aside0.mk ((hbn.block _ (blk_lt G5.out)).trans G5.out); replace C5 := Aside0.mk (Kd.C_below C5.out hbn); replace Q5 := Aside0.mk ((hbn.block _ (blk_lt Q5.out)).trans Q5.out); replace T5 := Aside0.mk ((hbn.block _ (blk_lt T5.out)).trans T5.out); clear t0 t1 t2 t3 t4 t5 u0 u1 u2 u3 u4 u5; obtain ⟨t0, t1, t2, t3, t4, t5⟩ := sup_cells T5.out; have u0 := blk_frozen T5.out 0; have u1 := blk_frozen T5.out 1; have u2 := blk_frozen T5.out 2; have u3 := blk_frozen T5.out 3; have u4 := blk_frozen T5.out 4; have u5 := blk_frozen T5.out 5; clear hbn H5; clear q0 q1 q2 q3; obtain ⟨q0, q1, q2, q3⟩ := geo_cells Q5.out)
        | (go_at_call 34; have hh_ := H5.out; clear hh_; refine (num34_32 C5.out hc HB.out HL.out H5.out).mono ?_; rintro e wn ⟨rfl, hbn⟩; replace K5 := Aside0.mk (K5.out.trans (hbn.mono K5.out.size)); replace G5 := Aside0.mk ((hbn.block _ (blk_lt G5.out)).trans G5.out); replace C5 := Aside0.mk (Kd.C_below C5.out hbn); replace Q5 := Aside0.mk ((hbn.block _ (blk_lt Q5.out)).trans Q5.out); have NW := Aside0.mk (show w.heap.size < wn.heap.size from Nat.lt_of_lt_of_le (blk_lt G5.out) (Nat.le_refl _)); clear hbn H5; clear q0 q1 q2 q3; obtain ⟨q0, q1, q2, q3⟩ := geo_cells Q5.out)
        | (go_at_call 34; have hh_ := H5.out; clear hh_; refine (num34_32 (Kd.C_alloc C5.out (.cells (supCs 0 0 0 0 0 0) 25)) hc HB.out HL.out H5.out).mono ?_; rintro e wz ⟨rfl, hbn⟩; have NW := Aside0.mk (show w.heap.size < wn.heap.size from blk_lt G5.out); have NQ := Aside0.mk (show g4 < wn.heap.size from blk_lt Q5.out); have T5 := Aside0.mk (show wz.heap[wn.heap.size]? = some (.cells (supCs 0 0 0 0 0 0) 25 (0, 0)) from (hbn.block _ (by simp)).trans (heap_new wn _)); replace K5 := Aside0.mk ((K5.out.alloc K5.out.size (.cells (supCs 0 0 0 0 0 0) 25)).trans (hbn.mono (Nat.le_trans K5.out.size (by simp)))); replace G5 := Aside0.mk (((((Below.refl wn.heap.size wn).alloc (Nat.le_refl _) (.cells (supCs 0 0 0 0 0 0) 25)).trans (hbn.mono (by simp))).block _ (blk_lt G5.out)).trans G5.out); replace Q5 := Aside0.mk (((((Below.refl wn.heap.size wn).alloc (Nat.le_refl _) (.cells (supCs 0 0 0 0 0 0) 25)).trans (hbn.mono (by simp))).block _ (blk_lt Q5.out)).trans Q5.out); replace C5 := Aside0.mk (Kd.C_below CO.out K5.out); have n1 := Nat.ne_of_lt NQ.out; have n2 := Nat.ne_of_gt NQ.out; obtain ⟨t0, t1, t2, t3, t4, t5⟩ := sup_cells T5.out; have u0 := blk_frozen T5.out 0; have u1 := blk_frozen T5.out 1; have u2 := blk_frozen T5.out 2; have u3 := blk_frozen T5.out 3; have u4 := blk_frozen T5.out 4; have u5 := blk_frozen T5.out 5; clear hbn H5; clear q0 q1 q2 q3; obtain ⟨q0, q1, q2, q3⟩ := geo_cells Q5.out))
    all_goals
      go_wp2_with fail
      go_meet
      case rel =>
        first
          | (have h6 := six_rel T5.out K5.out NW.out G5.out (.int .i64 x0) (.int .i64 x1) (.int .i64 x2) (.int .i64 x3) (.int .i64 x4) (.int .i64 x5); exact ⟨_, rfl, ⟨h6.1⟩, ⟨h6.2.1⟩, ⟨h6.2.2⟩⟩)
          | exact ⟨wn.heap.size, rfl, ⟨heap_new wn _⟩, ⟨(Below.heap_alloc wn _ w.heap.size NW.out).trans G5.out⟩, ⟨K5.out.alloc K5.out.size _⟩⟩
  case rest =>
    clear K5 G5 C5 Q5
    obtain ⟨g5, rfl, S3, G3, K3⟩ := hcut
    obtain ⟨s0, s1, s2, s3, s4, s5⟩ := sup_cells S3.out
    have C3 := Aside0.mk (Kd.C_below CO.out K3.out)
    go_wp2_with fail
    clear s0 s1 s2 s3 s4 s5
    by_cases hc0 : ck = 0
    case neg =>
      obtain ⟨rfl, rfl, rfl, rfl, rfl, rfl, rfl⟩ : y0 = 0 ∧ y1 = 0 ∧ y2 = 0 ∧ y3 = 0 ∧ y4 = 0 ∧ y5 = 0 ∧ ey = 50 := by
        rcases HY.out with ⟨h, _⟩ | ⟨_, h⟩
        · exact absurd h hc0
        · exact h
      refine (rsbytes_no _ x0 x1 x2 x3 x4 x5 ck CK.out hc0).mono ?_
      rintro e w4 ⟨rfl, hb4⟩
      have K4 := Aside0.mk (K3.out.trans (hb4.mono K3.out.size))
      have G4 := Aside0.mk ((hb4.block _ (blk_lt G3.out)).trans G3.out)
      have S4 := Aside0.mk ((hb4.block _ (blk_lt S3.out)).trans S3.out)
      have C4 := Aside0.mk (Kd.C_below C3.out hb4)
      have hckn : (ck != 0) = true := by simpa using hc0
      clear hb4 hc0
      obtain ⟨z0, z1, z2, z3, z4, z5⟩ := sup_cells G4.out
      have f0 := blk_frozen G4.out 0
      have f1 := blk_frozen G4.out 1
      have f2 := blk_frozen G4.out 2
      have f3 := blk_frozen G4.out 3
      have f4 := blk_frozen G4.out 4
      have f5 := blk_frozen G4.out 5
      go_wp2_with fail
      obtain ⟨hs, hk⟩ := set6 G4.out K4.out (Nat.le_refl _) (.int .i64 0) (.int .i64 0) (.int .i64 0) (.int .i64 0) (.int .i64 0) (.int .i64 0)
      refine bodyPost_ret (results_ct rfl _ _ w.heap.size 25 #[.int .i64 0, .int .i64 0, .int .i64 0, .int .i64 0, .int .i64 0, .int .i64 0] (0, 0) _ rfl hs Try.underlying25 rfl (by kernel_rfl)) rfl ?_
      exact ⟨rfl, hk⟩
    subst hc0
    refine (rsbytes_ok _ x0 x1 x2 x3 x4 x5 CK.out CK2.out).mono ?_
    rintro e w4 ⟨X, dx, rfl, hX, hb4⟩
    have K4 := Aside0.mk (K3.out.trans (hb4.mono K3.out.size))
    have G4 := Aside0.mk ((hb4.block _ (blk_lt G3.out)).trans G3.out)
    have S4 := Aside0.mk ((hb4.block _ (blk_lt S3.out)).trans S3.out)
    have C4 := Aside0.mk (Kd.C_below C3.out hb4)
    have X4 := Aside0.mk hX
    clear hb4 hX
    go_wp2_with fail
    have he := same_c X4.out.C X4.out.cap C4.out hc (by rw [supB_length, HL.out]) (by rw [supB_length]; decide)
    rw [supB_length, HL.out] at he
    refine he.mono ?_
    rintro e w5 ⟨rfl, hb5⟩
    have K5 := Aside0.mk (K4.out.trans (hb5.mono K4.out.size))
    have G5 := Aside0.mk ((hb5.block _ (blk_lt G4.out)).trans G4.out)
    have S5 := Aside0.mk ((hb5.block _ (blk_lt S4.out)).trans S4.out)
    have C5 := Aside0.mk (Kd.C_below C4.out hb5)
    clear hb5 he
    by_cases heq : supB x0 x1 x2 x3 x4 x5 = l
    case neg =>
      obtain ⟨rfl, rfl, rfl, rfl, rfl, rfl, rfl⟩ : y0 = 0 ∧ y1 = 0 ∧ y2 = 0 ∧ y3 = 0 ∧ y4 = 0 ∧ y5 = 0 ∧ ey = 50 := by
        rcases HY.out with ⟨_, h, _⟩ | ⟨_, h⟩
        · exact absurd h heq
        · exact h
      rw [decide_eq_false heq]
      clear heq
      obtain ⟨z0, z1, z2, z3, z4, z5⟩ := sup_cells G5.out
      have f0 := blk_frozen G5.out 0
      have f1 := blk_frozen G5.out 1
      have f2 := blk_frozen G5.out 2
      have f3 := blk_frozen G5.out 3
      have f4 := blk_frozen G5.out 4
      have f5 := blk_frozen G5.out 5
      go_wp2_with fail
      obtain ⟨hs, hk⟩ := set6 G5.out K5.out (Nat.le_refl _) (.int .i64 0) (.int .i64 0) (.int .i64 0) (.int .i64 0) (.int .i64 0) (.int .i64 0)
      refine bodyPost_ret (results_ct rfl _ _ w.heap.size 25 #[.int .i64 0, .int .i64 0, .int .i64 0, .int .i64 0, .int .i64 0, .int .i64 0] (0, 0) _ rfl hs Try.underlying25 rfl (by kernel_rfl)) rfl ?_
      exact ⟨rfl, hk⟩
    obtain ⟨rfl, rfl, rfl, rfl, rfl, rfl, rfl⟩ : y0 = x0 ∧ y1 = x1 ∧ y2 = x2 ∧ y3 = x3 ∧ y4 = x4 ∧ y5 = x5 ∧ ey = 0 := by
      rcases HY.out with ⟨_, _, h⟩ | ⟨h, _⟩
      · exact h
      · exact absurd ⟨by trivial, heq⟩ h
    rw [decide_eq_true heq]
    clear heq
    obtain ⟨s0, s1, s2, s3, s4, s5⟩ := sup_cells S5.out
    obtain ⟨z0, z1, z2, z3, z4, z5⟩ := sup_cells G5.out
    have f0 := blk_frozen G5.out 0
    have f1 := blk_frozen G5.out 1
    have f2 := blk_frozen G5.out 2
    have f3 := blk_frozen G5.out 3
    have f4 := blk_frozen G5.out 4
    have f5 := blk_frozen G5.out 5
    go_wp2_with fail
    obtain ⟨hs, hk⟩ := set6 G5.out K5.out (Nat.le_refl _) (.int .i64 y0) (.int .i64 y1) (.int .i64 y2) (.int .i64 y3) (.int .i64 y4) (.int .i64 y5)
    refine bodyPost_ret (results_ct rfl _ _ w.heap.size 25 #[.int .i64 y0, .int .i64 y1, .int .i64 y2, .int .i64 y3, .int .i64 y4, .int .i64 y5] (0, 0) _ rfl hs Try.underlying25 rfl (by kernel_rfl)) rfl ?_
    exact ⟨rfl, hk⟩
end Go.Proofs.Ytojolpamgijcbaa.Pure
