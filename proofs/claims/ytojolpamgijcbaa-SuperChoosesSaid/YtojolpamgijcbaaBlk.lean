/- Two blocks, of a super or of any bytes: walked. -/
import Derived.Test.YtojolpamgijcbaaChB
import Derived.Deep.RegionHeld3
namespace Go.Proofs.Ytojolpamgijcbaa.Pure
open Go.RowKit Go.Proofs.Ytojolpamgijcbaa Go.Proofs.Ytojolpamgijcbaa.PAll Go.Proofs.Ytojolpamgijcbaa.PGt Go.Proofs.Ytojolpamgijcbaa.Mem Go.Proofs.YtojolpamgijcbaaW.PrintWords Go.Proofs.YtojolpamgijcbaaW.PrintLast Go.Proofs.YtojolpamgijcbaaW.PrintMore
set_option linter.unusedVariables false
set_option linter.unusedSimpArgs false

set_option maxRecDepth 100000 in
set_option maxHeartbeats 16000000 in
theorem blocks_c (w : World) (a0 a1 a2 a3 a4 a5 b0 b1 b2 b3 b4 b5 : Int) (tb : Bool) (ta ty : Int) (D : Option Addr) (cd : Nat) (lb : List Int) (hta : 0 ≤ ta ∧ ta < 256) (hty : 0 ≤ ty ∧ ty < 256) (hC : Kd.C (Kd.int .u8) w D lb.length lb) (hcd : lb.length ≤ cd) (hlb : Bytes lb) (hll : lb.length ≤ 140737488351232) :
    Calls Try.prog 22 #[.agg (twCs a0 a1 a2 a3 a4 a5 b0 b1 b2 b3 b4 b5 tb ta ty D lb.length cd)] w fun e w' => ∃ U cu V cv lu lv, e = .returned (.tuple #[.slice U lu.length cu, .slice V lv.length cv]) ∧ Kd.C (Kd.int .u8) w' U lu.length lu ∧ lu.length ≤ cu ∧ Bytes lu ∧ lu.length ≤ 140737488351232 ∧ Kd.C (Kd.int .u8) w' V lv.length lv ∧ lv.length ≤ cv ∧ Bytes lv ∧ lv.length ≤ 140737488351232 ∧ Below w.heap.size w w' := by
  have hu25 := Try.underlying25
  have hu23 := Try.underlying23
  have hu41 := Try.underlying41
  obtain ⟨ka, ha1, ha2⟩ := chk_eq 1 a0 a1 a2 a3 a4 a5 (by decide)
  obtain ⟨kb, hb1, hb2⟩ := chk_eq 1 b0 b1 b2 b3 b4 b5 (by decide)
  have CA := Aside0.mk ha1
  have CA2 := Aside0.mk ha2
  have CB := Aside0.mk hb1
  have CB2 := Aside0.mk hb2
  have DD := Aside0.mk hC
  have HD := Aside0.mk hcd
  have BD := Aside0.mk hlb
  have LD := Aside0.mk hll
  have HT := Aside0.mk hta
  have HY := Aside0.mk hty
  have KK := Aside0.mk ((Below.refl w.heap.size w).alloc (Nat.le_refl _) (.cells (twCs a0 a1 a2 a3 a4 a5 b0 b1 b2 b3 b4 b5 tb ta ty D lb.length cd) 41))
  have T1 := Aside0.mk (heap_new w (.cells (twCs a0 a1 a2 a3 a4 a5 b0 b1 b2 b3 b4 b5 tb ta ty D lb.length cd) 41))
  clear ha1 ha2 hb1 hb2 hC hcd hlb hll hta hty
  go_enter Try.func22, Try.ntmps22
  go_wp2_with fail
  refine (rsbytes_c CA.out CA2.out).mono ?_
  rintro e w1 ⟨X, cx, rfl, hX, hb⟩
  have NX := Aside0.mk (show w.heap.size < (w.alloc (.cells (twCs a0 a1 a2 a3 a4 a5 b0 b1 b2 b3 b4 b5 tb ta ty D lb.length cd) 41)).heap.size by simp)
  replace KK := Aside0.mk (KK.out.trans (hb.mono KK.out.size))
  replace T1 := Aside0.mk ((hb.block _ (blk_lt T1.out)).trans T1.out)
  have XX := Aside0.mk hX
  clear hb hX
  obtain ⟨m0, m1, m2, m3, m4, m5, m6, m7, m8, m9, m10, m11, m12, m13, m14, m15⟩ := tw_cells T1.out
  go_wp2_with fail
  refine (rsbytes_c CB.out CB2.out).mono ?_
  rintro e w2 ⟨Y, cy, rfl, hY, hb⟩
  replace KK := Aside0.mk (KK.out.trans (hb.mono KK.out.size))
  replace T1 := Aside0.mk ((hb.block _ (blk_lt T1.out)).trans T1.out)
  have XX0 := XX
  replace XX := Aside0.mk (own_below XX0.out hb)
  have YY := Aside0.mk hY
  have XW := Aside0.mk (own_lt XX.out)
  have NXY := Aside0.mk (show ∀ g k, 0 < (supR ka a0 a1 a2 a3 a4 a5).length → X = some ⟨g, 0, none⟩ → 0 < (supR kb b0 b1 b2 b3 b4 b5).length → Y = some ⟨k, 0, none⟩ → g < k from fun g k h1 h2 h3 h4 => by
    have q1 := (own_lt hY k h3 h4).1
    have q2 := (own_lt XX0.out g h1 h2).2
    omega)
  clear hb hY XX0 m0 m1 m2 m3 m4 m5 m6 m7 m8 m9 m10 m11 m12 m13 m14 m15
  have XB := Aside0.mk (supR_bytes ka a0 a1 a2 a3 a4 a5)
  have YB := Aside0.mk (supR_bytes kb b0 b1 b2 b3 b4 b5)
  have XL := Aside0.mk (show (supR ka a0 a1 a2 a3 a4 a5).length ≤ 140737488351232 by unfold supR; split; rw [supB_length]; decide; decide)
  have YL := Aside0.mk (show (supR kb b0 b1 b2 b3 b4 b5).length ≤ 140737488351232 by unfold supR; split; rw [supB_length]; decide; decide)
  have XL2 := Aside0.mk (show (supR ka a0 a1 a2 a3 a4 a5).length = 0 ∨ (supR ka a0 a1 a2 a3 a4 a5).length = 256 by unfold supR; split; exact .inr (supB_length _ _ _ _ _ _); exact .inl rfl)
  generalize supR ka a0 a1 a2 a3 a4 a5 = la at XX XB XL XL2 XW NXY ⊢
  generalize supR kb b0 b1 b2 b3 b4 b5 = lr at YY YB YL NXY ⊢
  by_cases hon : tb = true ∧ 0 < la.length
  case neg =>
    cases tb with
    | false =>
      clear hon
      obtain ⟨m0, m1, m2, m3, m4, m5, m6, m7, m8, m9, m10, m11, m12, m13, m14, m15⟩ := tw_cells T1.out
      by_cases hp : 0 < lb.length
      case pos =>
        have hgd : decide ((lb.length : Int) > 0) = true := decide_eq_true (by omega)
        have hgd2 : decide (0 < lb.length) = true := decide_eq_true hp
        clear hp
        go_wp2_with fail
        refine (rslot_c _ a0 a1 a2 a3 a4 a5).mono ?_
        rintro e wn ⟨rfl, hb⟩
        replace KK := Aside0.mk (KK.out.trans (hb.mono KK.out.size))
        replace XX := Aside0.mk (own_below XX.out hb)
        have DF := Aside0.mk (Kd.C_below DD.out KK.out)
        clear hb m0 m1 m2 m3 m4 m5 m6 m7 m8 m9 m10 m11 m12 m13 m14 m15 hgd hgd2
        by_cases hs : slotI a0 = 1
        case pos =>
          have hne : (slotI a0 == 1) = true := by simpa using hs
          clear hs
          go_wp2_with fail
          go_ret2
          exact ⟨_, _, _, _, _, _, rfl, DF.out, HD.out, BD.out, LD.out, XX.out.C, XX.out.cap, XB.out, XL.out, KK.out⟩
        have hne : (slotI a0 == 1) = false := by simpa using hs
        clear hs
        go_wp2_with fail
        go_ret2
        exact ⟨_, _, _, _, _, _, rfl, XX.out.C, XX.out.cap, XB.out, XL.out, DF.out, HD.out, BD.out, LD.out, KK.out⟩
      have hgd : decide ((lb.length : Int) > 0) = false := decide_eq_false (by omega)
      have hgd2 : decide (0 < lb.length) = false := decide_eq_false hp
      clear hp
      go_wp2_with fail
      refine (rslot_c _ a0 a1 a2 a3 a4 a5).mono ?_
      rintro e wn ⟨rfl, hb⟩
      replace KK := Aside0.mk (KK.out.trans (hb.mono KK.out.size))
      replace XX := Aside0.mk (own_below XX.out hb)
      replace YY := Aside0.mk (own_below YY.out hb)
      clear hb m0 m1 m2 m3 m4 m5 m6 m7 m8 m9 m10 m11 m12 m13 m14 m15 hgd hgd2
      by_cases hs : slotI a0 = 1
      case pos =>
        have hne : (slotI a0 == 1) = true := by simpa using hs
        clear hs
        go_wp2_with fail
        go_ret2
        exact ⟨_, _, _, _, _, _, rfl, YY.out.C, YY.out.cap, YB.out, YL.out, XX.out.C, XX.out.cap, XB.out, XL.out, KK.out⟩
      have hne : (slotI a0 == 1) = false := by simpa using hs
      clear hs
      go_wp2_with fail
      go_ret2
      exact ⟨_, _, _, _, _, _, rfl, XX.out.C, XX.out.cap, XB.out, XL.out, YY.out.C, YY.out.cap, YB.out, YL.out, KK.out⟩
    | true =>
      have hz : ¬ 0 < la.length := fun h => hon ⟨rfl, h⟩
      have hq : decide ((la.length : Int) > 0) = false := decide_eq_false (by omega)
      have hq2 : decide (0 < la.length) = false := decide_eq_false hz
      clear hon hz
      obtain ⟨m0, m1, m2, m3, m4, m5, m6, m7, m8, m9, m10, m11, m12, m13, m14, m15⟩ := tw_cells T1.out
      by_cases hp : 0 < lb.length
      case pos =>
        have hgd : decide ((lb.length : Int) > 0) = true := decide_eq_true (by omega)
        have hgd2 : decide (0 < lb.length) = true := decide_eq_true hp
        clear hp
        go_wp2_with fail
        refine (rslot_c _ a0 a1 a2 a3 a4 a5).mono ?_
        rintro e wn ⟨rfl, hb⟩
        replace KK := Aside0.mk (KK.out.trans (hb.mono KK.out.size))
        replace XX := Aside0.mk (own_below XX.out hb)
        have DF := Aside0.mk (Kd.C_below DD.out KK.out)
        clear hb m0 m1 m2 m3 m4 m5 m6 m7 m8 m9 m10 m11 m12 m13 m14 m15 hgd hgd2
        by_cases hs : slotI a0 = 1
        case pos =>
          have hne : (slotI a0 == 1) = true := by simpa using hs
          clear hs
          go_wp2_with fail
          go_ret2
          exact ⟨_, _, _, _, _, _, rfl, DF.out, HD.out, BD.out, LD.out, XX.out.C, XX.out.cap, XB.out, XL.out, KK.out⟩
        have hne : (slotI a0 == 1) = false := by simpa using hs
        clear hs
        go_wp2_with fail
        go_ret2
        exact ⟨_, _, _, _, _, _, rfl, XX.out.C, XX.out.cap, XB.out, XL.out, DF.out, HD.out, BD.out, LD.out, KK.out⟩
      have hgd : decide ((lb.length : Int) > 0) = false := decide_eq_false (by omega)
      have hgd2 : decide (0 < lb.length) = false := decide_eq_false hp
      clear hp
      go_wp2_with fail
      refine (rslot_c _ a0 a1 a2 a3 a4 a5).mono ?_
      rintro e wn ⟨rfl, hb⟩
      replace KK := Aside0.mk (KK.out.trans (hb.mono KK.out.size))
      replace XX := Aside0.mk (own_below XX.out hb)
      replace YY := Aside0.mk (own_below YY.out hb)
      clear hb m0 m1 m2 m3 m4 m5 m6 m7 m8 m9 m10 m11 m12 m13 m14 m15 hgd hgd2
      by_cases hs : slotI a0 = 1
      case pos =>
        have hne : (slotI a0 == 1) = true := by simpa using hs
        clear hs
        go_wp2_with fail
        go_ret2
        exact ⟨_, _, _, _, _, _, rfl, YY.out.C, YY.out.cap, YB.out, YL.out, XX.out.C, XX.out.cap, XB.out, XL.out, KK.out⟩
      have hne : (slotI a0 == 1) = false := by simpa using hs
      clear hs
      go_wp2_with fail
      go_ret2
      exact ⟨_, _, _, _, _, _, rfl, XX.out.C, XX.out.cap, XB.out, XL.out, YY.out.C, YY.out.cap, YB.out, YL.out, KK.out⟩
  obtain ⟨rfl, hz⟩ := hon
  have hq : decide ((la.length : Int) > 0) = true := decide_eq_true (by omega)
  have hq2 : decide (0 < la.length) = true := decide_eq_true hz
  have h256 : la.length = 256 := by rcases XL2.out with h | h; omega; exact h
  obtain ⟨g, cur, hXe, hge, hhp, htk⟩ := XX.out.blk hz
  subst hXe
  obtain ⟨at_, hat⟩ : ∃ n : Nat, ta = n := ⟨ta.toNat, by have := HT.out; omega⟩
  subst hat
  have hlt : at_ < la.length := by have := HT.out; omega
  have hx := getD_of (L := cur) (xs := la) (o := 0) (enc := Value.int .u8) (by simpa using htk) at_ hlt
  rw [Nat.zero_add] at hx
  obtain ⟨xv, hxv⟩ : ∃ v, v = la[at_] := ⟨_, rfl⟩
  rw [← hxv] at hx
  have hxb := XB.out _ (List.getElem_mem hlt)
  rw [← hxv] at hxb
  have VB := Aside0.mk (xor_byte hxb HY.out)
  have hbd := below_drew (Below.refl w2.heap.size w2)
  have T2 := Aside0.mk ((hbd.block _ (blk_lt T1.out)).trans T1.out)
  have hcell : w2.drew.cell? ⟨g, at_, none⟩ = some (.int .u8 xv) := by rw [blk_cell ((hbd.block _ (blk_lt hhp)).trans hhp)]; simpa using hx
  have hfz := blk_frozen ((hbd.block _ (blk_lt hhp)).trans hhp) at_
  have NG := Aside0.mk (show w.heap.size ≠ g by have := NX.out; omega)
  have hds := below_drew (Below.refl (w2.setCell ⟨g, at_, none⟩ (.int .u8 (Go.bits .xor .u8 xv ty))).heap.size (w2.setCell ⟨g, at_, none⟩ (.int .u8 (Go.bits .xor .u8 xv ty))))
  have K2 := Aside0.mk ((KK.out.setCell (p := ⟨g, at_, none⟩) (show w.heap.size ≤ g by have := NX.out; omega) (.int .u8 (Go.bits .xor .u8 xv ty))).trans (hds.mono (KK.out.setCell (p := ⟨g, at_, none⟩) (show w.heap.size ≤ g by have := NX.out; omega) (.int .u8 (Go.bits .xor .u8 xv ty))).size))
  have X2 := Aside0.mk (own_below (own_set XX.out hlt (Go.bits .xor .u8 xv ty)) hds)
  have Y2 := Aside0.mk (own_below (own_kept (w1 := (w2.setCell ⟨g, at_, none⟩ (.int .u8 (Go.bits .xor .u8 xv ty)))) YY.out (fun k h1 h2 => Below.heap_setCell _ _ _ k (Ne.symm (Nat.ne_of_lt (NXY.out g k hz rfl h1 h2))))) hds)
  have hT3 := (Below.heap_setCell w2 ⟨g, at_, none⟩ (.int .u8 (Go.bits .xor .u8 xv ty)) w.heap.size NG.out).trans T1.out
  have T3 := Aside0.mk ((hds.block _ (blk_lt hT3)).trans hT3)
  clear hds hT3
  have B2 := Aside0.mk (set_bytes XB.out VB.out at_)
  have L2 := Aside0.mk (show (la.set at_ (Go.bits .xor .u8 xv ty)).length = la.length from List.length_set)
  have hcd2 : decide (at_ < la.length) = true := decide_eq_true hlt
  clear hx hhp htk hge hbd hxb hxv hz
  obtain ⟨m0, m1, m2, m3, m4, m5, m6, m7, m8, m9, m10, m11, m12, m13, m14, m15⟩ := tw_cells T1.out
  go_upto_region 4 with fail
  clear m0 m1 m2 m3 m4 m5 m6 m7 m8 m9 m10 m11 m12 m13 m14 m15 hq hq2
  obtain ⟨m0, m1, m2, m3, m4, m5, m6, m7, m8, m9, m10, m11, m12, m13, m14, m15⟩ := tw_cells T2.out
  go_region_with fail
  all_goals
    clear KK T1 XX YY XB XL m0 m1 m2 m3 m4 m5 m6 m7 m8 m9 m10 m11 m12 m13 m14 m15
    have KK := K2
    have T1 := T3
    obtain ⟨lx, hlx⟩ : ∃ x, x = la.set at_ (Go.bits .xor .u8 xv ty) := ⟨_, rfl⟩
    have XX := X2
    have XB := B2
    have LX := Aside0.mk (show lx.length = 256 by rw [hlx, L2.out, h256])
    rw [← hlx] at XX XB
    have XL := Aside0.mk (show lx.length ≤ 140737488351232 by rw [LX.out]; decide)
    have YY := Y2
    clear hlx K2 X2 Y2 T3 B2 L2 hcell hfz h256 hlt hcd2 XL2 NXY XW NX
    obtain ⟨m0, m1, m2, m3, m4, m5, m6, m7, m8, m9, m10, m11, m12, m13, m14, m15⟩ := tw_cells T1.out
    by_cases hp : 0 < lb.length
    case pos =>
      have hgd : decide ((lb.length : Int) > 0) = true := decide_eq_true (by omega)
      have hgd2 : decide (0 < lb.length) = true := decide_eq_true hp
      clear hp
      go_wp2_with fail
      refine (rslot_c _ a0 a1 a2 a3 a4 a5).mono ?_
      rintro e wn ⟨rfl, hb⟩
      replace KK := Aside0.mk (KK.out.trans (hb.mono KK.out.size))
      replace XX := Aside0.mk (own_below XX.out hb)
      have DF := Aside0.mk (Kd.C_below DD.out KK.out)
      clear hb m0 m1 m2 m3 m4 m5 m6 m7 m8 m9 m10 m11 m12 m13 m14 m15 hgd hgd2
      by_cases hs : slotI a0 = 1
      case pos =>
        have hne : (slotI a0 == 1) = true := by simpa using hs
        clear hs
        go_wp2_with fail
        go_ret2
        exact ⟨_, _, _, _, _, _, (by rw [LX.out]; rfl), DF.out, HD.out, BD.out, LD.out, XX.out.C, XX.out.cap, XB.out, XL.out, KK.out⟩
      have hne : (slotI a0 == 1) = false := by simpa using hs
      clear hs
      go_wp2_with fail
      go_ret2
      exact ⟨_, _, _, _, _, _, (by rw [LX.out]; rfl), XX.out.C, XX.out.cap, XB.out, XL.out, DF.out, HD.out, BD.out, LD.out, KK.out⟩
    have hgd : decide ((lb.length : Int) > 0) = false := decide_eq_false (by omega)
    have hgd2 : decide (0 < lb.length) = false := decide_eq_false hp
    clear hp
    go_wp2_with fail
    refine (rslot_c _ a0 a1 a2 a3 a4 a5).mono ?_
    rintro e wn ⟨rfl, hb⟩
    replace KK := Aside0.mk (KK.out.trans (hb.mono KK.out.size))
    replace XX := Aside0.mk (own_below XX.out hb)
    replace YY := Aside0.mk (own_below YY.out hb)
    clear hb m0 m1 m2 m3 m4 m5 m6 m7 m8 m9 m10 m11 m12 m13 m14 m15 hgd hgd2
    by_cases hs : slotI a0 = 1
    case pos =>
      have hne : (slotI a0 == 1) = true := by simpa using hs
      clear hs
      go_wp2_with fail
      go_ret2
      exact ⟨_, _, _, _, _, _, (by rw [LX.out]; rfl), YY.out.C, YY.out.cap, YB.out, YL.out, XX.out.C, XX.out.cap, XB.out, XL.out, KK.out⟩
    have hne : (slotI a0 == 1) = false := by simpa using hs
    clear hs
    go_wp2_with fail
    go_ret2
    exact ⟨_, _, _, _, _, _, (by rw [LX.out]; rfl), XX.out.C, XX.out.cap, XB.out, XL.out, YY.out.C, YY.out.cap, YB.out, YL.out, KK.out⟩
end Go.Proofs.Ytojolpamgijcbaa.Pure
