/- The record of any bytes at any place, and the place that they say. -/
import Derived.Test.YtglgndeoldgjbaaReads2
import Derived.Test.YtglgndeoldgjbaaPTwox4
import Derived.Deep.RegionHeld3
import Derived.RangeFuncRecord
namespace Go.Proofs.Ytglgndeoldgjbaa.Pure
open Go.RowKit Go.Proofs.Ytglgndeoldgjbaa Go.Proofs.Ytglgndeoldgjbaa.PTwo Go.Proofs.Ytglgndeoldgjbaa.Mem Go.Proofs.YtglgndeoldgjbaaW.PrintWords Go.Proofs.YtglgndeoldgjbaaW.PrintLast Go.Proofs.YtglgndeoldgjbaaW.PrintMore
set_option linter.unusedVariables false
set_option linter.unusedSimpArgs false

theorem bclone_c {w : World} {A : Option Addr} {c : Nat} {l : List Int} (hC : Kd.C (Kd.int .u8) w A l.length l) (hc : l.length ≤ c) (hl : l.length < 140737488355328) :
    Calls Try.prog 17 #[.slice A l.length c] w fun e w' => ∃ B d, e = .returned (.slice B l.length d) ∧ Own w' w.heap.size B d l ∧ Below w.heap.size w w' := by
  refine (PTwo.bytes_Clone.calls A c l l w hC hc (by unfold PTwo.bytes_Clone.f; rw [if_pos hl])).mono ?_
  rintro e w' ⟨v, rfl, ho, hb⟩
  obtain ⟨B, d, rfl, ho2⟩ := own_of ho
  exact ⟨B, d, rfl, ho2, hb⟩
set_option maxRecDepth 100000 in
set_option maxHeartbeats 16000000 in
theorem RecordReads (w : World) (A : Option Addr) (ca : Nat) (l : List Int) (p : Int) (hl : Bytes l) (hla : l.length ≤ 140737488351232) (hC : Kd.C (Kd.int .u8) w A l.length l) (hca : l.length ≤ ca) :
    Calls Try.prog 5 #[.slice A l.length ca, .int .i64 p] w fun e w' => e = .returned (.bool true) ∧ Below w.heap.size w w' := by
  have hu24 := Try.underlying24
  have LB := Aside0.mk hl
  have CA := Aside0.mk hca
  have LL := Aside0.mk hla
  have hlI : (l.length : Int) ≤ 140737488351232 := by omega
  have C0 := Aside0.mk hC
  obtain ⟨r1, r2, r3, r4, r5, r6, hf, hr4, hts⟩ := take_is l hl hla p
  obtain ⟨m1, m2, hfl, hls⟩ := lsn_is l hl hla
  have TF := Aside0.mk hf
  have TB := Aside0.mk hr4
  have TS := Aside0.mk hts
  have LF := Aside0.mk hfl
  have LS := Aside0.mk hls
  have hn6 : (r6 != r6) = false := by simp
  have hm1 : (m1 != m1) = false := by simp
  have hm2 : (m2 != m2) = false := by simp
  clear hl hC hca hla hf hr4 hts hfl hls
  go_enter Try.func5, Try.ntmps5
  go_wp2_with fail
  refine (begun_c _).mono ?_
  rintro e w1 ⟨rfl, hb1⟩
  have K1 := Aside0.mk hb1
  have C1 := Aside0.mk (Kd.C_below C0.out hb1)
  clear hb1
  by_cases hbig : l.length > 5000
  case pos =>
    have hgd : decide ((l.length : Int) > 5000) = true := decide_eq_true (by omega)
    have hgd2 : decide (l.length > 5000) = true := decide_eq_true hbig
    have hgd3 : decide (5000 < l.length) = true := decide_eq_true hbig
    clear hbig hn6 hm1 hm2
    go_wp2_with fail
    refine (begun_c _).mono ?_
    rintro e w2 ⟨rfl, hb2⟩
    have K2 := Aside0.mk (K1.out.trans (hb2.mono K1.out.size))
    clear hb2
    go_wp2_with fail
    go_ret
    exact ⟨by simp, K2.out⟩
  have hgd : decide ((l.length : Int) > 5000) = false := decide_eq_false (by omega)
  have hgd2 : decide (l.length > 5000) = false := decide_eq_false hbig
  have hgd3 : decide (5000 < l.length) = false := decide_eq_false hbig
  clear hbig
  go_wp2_with fail
  refine (bclone_c C1.out CA.out (by have := LL.out; omega)).mono ?_
  rintro e w2 ⟨U, cu, rfl, hU, hb2⟩
  have K2 := Aside0.mk (K1.out.trans (hb2.mono K1.out.size))
  have C2 := Aside0.mk (Kd.C_below C1.out hb2)
  have U2 := Aside0.mk hU
  clear hb2 hU hgd hgd2 hgd3
  go_wp2_with fail
  refine (take_c C2.out CA.out LB.out LL.out TF.out).mono ?_
  rintro e w3 ⟨R, cr, rfl, hR, hb3⟩
  obtain ⟨o2, ho2⟩ : ∃ o, o = Obj.cells (recCs r1 r2 r3 R r4.length cr r5) 24 := ⟨_, rfl⟩
  obtain ⟨gr, hgr⟩ : ∃ gv, gv = w3.heap.size := ⟨_, rfl⟩
  have hb3a : Below w2.heap.size w2 (w3.alloc o2) := hb3.alloc hb3.size _
  have hrb : Below w3.heap.size w3 (w3.alloc o2) := (Below.refl _ w3).alloc (Nat.le_refl _) _
  have K3 := Aside0.mk (K2.out.trans (hb3a.mono K2.out.size))
  have C3 := Aside0.mk (Kd.C_below C2.out hb3a)
  have U3 := Aside0.mk (own_below U2.out hb3a)
  have R3 := Aside0.mk (own_below hR hrb)
  have RL := Aside0.mk (own_lt hR)
  have UL := Aside0.mk (own_lt U2.out)
  have S3 := Aside0.mk (show w.heap.size ≤ w2.heap.size from K2.out.size)
  have S23 := Aside0.mk (show w2.heap.size ≤ w3.heap.size from hb3.size)
  have hbx : (w3.alloc o2).heap[gr]? = some o2 := by rw [hgr]; exact heap_new w3 o2
  subst ho2
  have P3 := Aside0.mk hbx
  have GR := Aside0.mk hgr
  clear hb3 hb3a hrb hR hbx
  go_wp2_with fail
  rw [← hgr]
  clear hgr
  refine (rtake_c C3.out CA.out LB.out LL.out TS.out).mono ?_
  rintro e w4 ⟨S, cs, rfl, hS, hb4⟩
  obtain ⟨o2, ho2⟩ : ∃ o, o = Obj.cells (recCs r1 r2 r3 S r4.length cs r5) 24 := ⟨_, rfl⟩
  obtain ⟨gs, hgs⟩ : ∃ gv, gv = w4.heap.size := ⟨_, rfl⟩
  have hb4a : Below (w3.alloc (.cells (recCs r1 r2 r3 R r4.length cr r5) 24)).heap.size (w3.alloc (.cells (recCs r1 r2 r3 R r4.length cr r5) 24)) (w4.alloc o2) := hb4.alloc hb4.size _
  have hrb : Below w4.heap.size w4 (w4.alloc o2) := (Below.refl _ w4).alloc (Nat.le_refl _) _
  have K4 := Aside0.mk (K3.out.trans (hb4a.mono K3.out.size))
  have C4 := Aside0.mk (Kd.C_below C3.out hb4a)
  have U4 := Aside0.mk (own_below U3.out hb4a)
  have R4 := Aside0.mk (own_below R3.out hb4a)
  have P4 := Aside0.mk ((hb4a.block _ (blk_lt P3.out)).trans P3.out)
  have S4 := Aside0.mk (own_below hS hrb)
  have hbx : (w4.alloc o2).heap[gs]? = some o2 := by rw [hgs]; exact heap_new w4 o2
  subst ho2
  have Q4 := Aside0.mk hbx
  have LG := Aside0.mk (show gr < w4.heap.size from by have h1 := hb4.size; have h2 := GR.out; simp at h1; omega)
  clear hb4 hb4a hrb hS hbx
  go_wp2_with fail
  rw [← hgs]
  clear hgs
  refine (lsn_c C4.out CA.out LB.out LL.out LF.out).mono ?_
  rintro e w5 ⟨rfl, hb5⟩
  have K5 := Aside0.mk (K4.out.trans (hb5.mono K4.out.size))
  have C5 := Aside0.mk (Kd.C_below C4.out hb5)
  have U5 := Aside0.mk (own_below U4.out hb5)
  have R5 := Aside0.mk (own_below R4.out hb5)
  have S5 := Aside0.mk (own_below S4.out hb5)
  have P5 := Aside0.mk ((hb5.block _ (blk_lt P4.out)).trans P4.out)
  have Q5 := Aside0.mk ((hb5.block _ (blk_lt Q4.out)).trans Q4.out)
  clear hb5
  go_wp2_with fail
  refine (rlsn_c C5.out CA.out LB.out LL.out LS.out).mono ?_
  rintro e w6 ⟨rfl, hb6⟩
  have K6 := Aside0.mk (K5.out.trans (hb6.mono K5.out.size))
  have C6 := Aside0.mk (Kd.C_below C5.out hb6)
  have U6 := Aside0.mk (own_below U5.out hb6)
  have R6 := Aside0.mk (own_below R5.out hb6)
  have S6 := Aside0.mk (own_below S5.out hb6)
  have P6 := Aside0.mk ((hb6.block _ (blk_lt P5.out)).trans P5.out)
  have Q6 := Aside0.mk ((hb6.block _ (blk_lt Q5.out)).trans Q5.out)
  clear hb6
  obtain ⟨p0, p1, p2, p3, p4⟩ := rec_cells P6.out
  obtain ⟨q0, q1, q2, q3, q4⟩ := rec_cells Q6.out
  go_wp2_with fail
  refine (rsame_c r1 r2 r3 r5 r1 r2 r3 r5 R6.out.C R6.out.cap S6.out.C S6.out.cap TB.out TB.out (rec_self r1 r2 r3 r5 r4)).mono ?_
  rintro e wn ⟨rfl, hb7⟩
  have KK := Aside0.mk (K6.out.trans (hb7.mono K6.out.size))
  have UU := Aside0.mk (own_below U6.out hb7)
  have RR := Aside0.mk (own_below R6.out hb7)
  have PP := Aside0.mk ((hb7.block _ (blk_lt P6.out)).trans P6.out)
  clear hb7 p0 p1 p2 p3 p4 q0 q1 q2 q3 q4
  have hrl : (r4.length : Int) ≤ 9223372036854775807 := by have := RR.out.C.2.1; omega
  obtain ⟨gG, hgG1, hgG2, hgG3⟩ := pick_blk RR.out (by have h1 := blk_lt PP.out; have h2 := GR.out; have h3 := S23.out; omega)
  have NN := Aside0.mk (show gG ≠ gr ∧ w.heap.size ≤ gG ∧ (∀ g, 0 < l.length → U = some ⟨g, 0, none⟩ → g ≠ gG) from by
    have h1 := blk_lt PP.out
    have h2 := GR.out
    have h3 := S3.out
    refine ⟨?_, by omega, fun g h4 h5 => ?_⟩
    · rcases hgG2 with ⟨_, h6⟩ | ⟨h6, h7, _⟩
      · omega
      · have := RL.out gG h6 h7
        omega
    · have := (UL.out g h4 h5).2
      omega)
  have G2 := Aside0.mk hgG2
  have G3 := Aside0.mk hgG3
  clear hgG1 hgG2 hgG3
  obtain ⟨p0, p1, p2, p3, p4⟩ := rec_cells PP.out
  clear p0 p1 p2 p4
  go_wp2_with fail
  go_loopg [69] r4.length (fun q i wr => ∃ k : Nat, i = .int .i64 k ∧ Aside0 (k + q = r4.length) ∧ Aside0 (Only gG wn wr) ∧ Aside0 (RowAt wr gG r4.length))
  case atStart => exact ⟨0, rfl, ⟨by omega⟩, ⟨Only.refl _ _⟩, G3⟩
  case round =>
    obtain ⟨k, rfl, HKQ, HO, HR⟩ := hrel
    by_cases hlt : k < r4.length
    case pos =>
      have HN := Aside0.mk (step_q HKQ.out hlt)
      have UR := Aside0.mk ((HO.out.block gr (Ne.symm NN.out.1)).trans PP.out)
      obtain ⟨u0, u1, u2, u3, u4⟩ := rec_cells UR.out
      clear u0 u1 u2 u4 p3
      have hgd : decide (k < r4.length) = true := decide_eq_true hlt
      obtain ⟨_, hGe, _⟩ : 0 < r4.length ∧ R = some ⟨gG, 0, none⟩ ∧ gG < wn.heap.size := by
        rcases G2.out with ⟨h, _⟩ | h
        · omega
        · exact h
      subst hGe
      obtain ⟨x, hx, hfz⟩ := rowAt_cell HR.out hlt
      have HS := Aside0.mk (rowAt_set HR.out k (Go.bits .xor .u8 x 255))
      have HS2 := Aside0.mk (only_trans HO.out (only_setCell wr ⟨gG, k, none⟩ (.int .u8 (Go.bits .xor .u8 x 255))))
      go_wp2_with fail
      go_roundg (gk - 1)
      case measure => exact step_m HKQ.out hlt
      case rel => exact ⟨k + 1, by go_num, HN, HS2, HS⟩
    have hge : decide (k < r4.length) = false := decide_eq_false hlt
    have hge2 : r4.length ≤ k := by omega
    clear hlt p3
    have KF := Aside0.mk (HO.out.below KK.out NN.out.2.1)
    have CF := Aside0.mk (Kd.C_below C0.out KF.out)
    have UF := Aside0.mk (own_kept UU.out (fun g h1 h2 => HO.out.block g (NN.out.2.2 g h1 h2)))
    go_wp2_with fail
    refine (eqself_c CF.out CA.out UF.out.C UF.out.cap).mono ?_
    rintro e wz ⟨rfl, hbz⟩
    have KZ := Aside0.mk (KF.out.trans (hbz.mono KF.out.size))
    clear hbz
    go_wp2_with fail
    go_ret
    exact ⟨by simp, KZ.out⟩
theorem RecordReadsR (w : World) (A : Option Addr) (ca : Nat) (l : List Int) (hwl : ∀ x ∈ l, (Lit.int .u8 x).wf = true) (hzl : l.length * 1 ≤ 140737488351232) (hCl : Kd.C (Kd.int .u8) w A l.length l) (hcl : l.length ≤ ca) (p : Int) (_ : (Lit.int .i64 p).wf = true) :
    Calls Try.prog 5 #[.slice A l.length ca, .int .i64 p] w fun e w' => e = .returned (.bool true) ∧ Below w.heap.size w w' :=
  RecordReads w A ca l p (bytes_wf hwl) (by omega) hCl hcl
end Go.Proofs.Ytglgndeoldgjbaa.Pure
