/- DiskSectors: walked. -/
import Derived.Test.YthnadkdfgckijaaDkSt
import Derived.Test.YthnadkdfgckijaaDkU
namespace Go.Proofs.Ythnadkdfgckijaa.Pure
open Go.RowKit Go.Proofs.Ythnadkdfgckijaa Go.Proofs.Ythnadkdfgckijaa.PAll Go.Proofs.Ythnadkdfgckijaa.Mem Go.Proofs.YthnadkdfgckijaaW.PrintWords Go.Proofs.YthnadkdfgckijaaW.PrintLast Go.Proofs.YthnadkdfgckijaaW.PrintMore
set_option linter.unusedVariables false
set_option linter.unusedSimpArgs false
set_option linter.unusedSectionVars false

theorem equal_q {w : World} {A0 A1 : Option Addr} {c0 c1 n0 n1 : Nat} {a b : List Int} (h0 : Kd.C (Kd.int .u8) w A0 a.length a) (h1 : Kd.C (Kd.int .u8) w A1 b.length b) (e0 : a.length = n0) (e1 : b.length = n1) (k0 : n0 ≤ c0) (k1 : n1 ≤ c1) (ha : Bytes a) (hb : Bytes b) :
    Calls Try.prog 20 #[.slice A0 n0 c0, .slice A1 n1 c1] w fun e w' => e = .returned (.bool (decide (a = b))) ∧ ∃ m, w' = w.drewN m := by
  subst e0 e1
  refine (bytes_Equal.calls A0 c0 a A1 c1 b _ w h0 k0 h1 k1 rfl).mono ?_
  rintro e w' ⟨rfl, hd⟩
  obtain ⟨m, hm⟩ := hd.out
  exact ⟨by rw [str_eq ha hb], m, hm⟩
theorem cap_sec {n c k : Nat} (h : n ≤ c) (hk : 64 * k + 64 ≤ n) : 64 * k + 64 ≤ c ∧ 64 ≤ c - 64 * k := by omega
theorem k_16 {k : Nat} (h : k < 16) : 64 * k + 64 ≤ 1024 ∧ k / 4 < 4 ∧ k % 4 < 16 ∧ 64 * (k % 4) + 64 ≤ 256 ∧ ((k : Int) / 4 = ((k / 4 : Nat) : Int)) ∧ ((k : Int) % 4 = ((k % 4 : Nat) : Int)) := by omega
theorem len_ne {n : Nat} (h : n ≤ 120) : n ≤ 1000000 := by omega
/-- A write that is pending, as it is read. -/
theorem pen_read {w : World} {U : Nat → Prop} {A : Option Addr} {P : List (Int × List Int)} (h : Kd.F kW w U A P.length P) (hl : ∀ x ∈ P, x.2.length = 256) {i : Nat} (hi : i < P.length) :
    ∃ ad Ab cb, A = some ad ∧ w.cell? (ad.add (i * 2)) = some (.int .i64 (pI P i)) ∧ w.cell? ⟨(ad.add (i * 2)).block, (ad.add (i * 2)).off + 1, none⟩ = some (.slice Ab 256 cb) ∧ 256 ≤ cb ∧ Kd.F (Kd.int .u8) w U Ab 256 (pB P i) ∧ (pB P i).length = 256 := by
  obtain ⟨ad, Ab, cb, a1, a2, a3, a4, a5⟩ := pen_at h hi
  have hll := hl _ (List.getElem_mem hi)
  have e : P.getD i (0, []) = P[i] := by rw [List.getD_eq_getElem?_getD, List.getElem?_eq_getElem hi]; rfl
  unfold pI pB
  rw [e]
  rw [hll] at a3 a4 a5
  exact ⟨ad, Ab, cb, a1, a2, a3, a4, a5, hll⟩
theorem pB_bytes {n : Nat} {P : List (Int × List Int)} (h : PenOk n P) {i : Nat} (hi : i < P.length) : Bytes (pB P i) := by
  unfold pB
  rw [List.getD_eq_getElem?_getD, List.getElem?_eq_getElem hi]
  exact (h _ (List.getElem_mem hi)).2.2.2
theorem box43 (w : World) (a b : Value) : (w.alloc (.cells #[a, b] 43)).cell? ⟨w.heap.size, 0, none⟩ = some a ∧ (w.alloc (.cells #[a, b] 43)).cell? ⟨w.heap.size, 1, none⟩ = some b := two_cells (heap_new w _)
theorem nlt_f {k n : Nat} (h : ¬ k < n) : decide ((k : Int) < (n : Int)) = false ∧ decide (k < n) = false := ⟨decide_eq_false (by omega), decide_eq_false h⟩
@[irreducible] def q4 (k : Nat) : Int := ((k / 4 : Nat) : Int)
@[irreducible] def r4 (k : Nat) : Int := ((k % 4 : Nat) : Int)
theorem q4_eq (k : Nat) : q4 k = ((k / 4 : Nat) : Int) := by unfold q4; rfl
theorem r4_eq (k : Nat) : r4 k = ((k % 4 : Nat) : Int) := by unfold r4; rfl
theorem wrap_i64 (x : Int) (h0 : -9223372036854775808 ≤ x) (h1 : x ≤ 9223372036854775807) : IntKind.i64.wrap x = x := by
  simp [IntKind.wrap, IntKind.min, IntKind.bits, IntKind.signed]
  split <;> omega
theorem wrap_q {k : Nat} (h : k < 16) : IntKind.i64.wrap ((k : Int) / 4) = q4 k := by rw [wrap_i64 _ (by omega) (by omega), q4_eq]; omega
theorem mod_q {k : Nat} (h : k < 16) : Int.tmod (k : Int) 4 = r4 k := by rw [r4_eq, Int.tmod_eq_emod_of_nonneg (by omega)]; omega
theorem sector_r (w : World) (A : Option Addr) (n c k : Nat) (h : 64 * (k % 4) + 64 ≤ c) : Calls Try.prog 24 #[.slice A n c, .int .i64 (r4 k)] w fun e w' => e = .returned (.slice (cutP A c (64 * (k % 4))) 64 (c - 64 * (k % 4))) ∧ w' = w := by
  rw [r4_eq]
  exact sector_c w A n c (k % 4) (by omega) h
attribute [local go_sem high] cut22
set_option maxRecDepth 100000 in
set_option maxHeartbeats 16000000 in
theorem sectors_c {w : World} {A Ax : Option Addr} {n c nx cx : Nat} {L : List SOp} {ps : List Int} (hL : OpsAt w A n L) (hc : n ≤ c) (hX : Kd.C (Kd.int .u8) w Ax nx ps) (hnx : ps.length = nx) (hcx : nx ≤ cx) : Calls Try.prog 4 #[.slice A n c, .slice Ax nx cx] w fun e w' => e = .returned (.bool true) ∧ Below w.heap.size w w' := by
  obtain ⟨S, hS⟩ : ∃ S, S = playS (L.take 120) := ⟨_, rfl⟩
  have UP := Aside0.mk (show Up 120 S from hS ▸ Up.script L)
  have PL := Aside0.mk (pl_le UP.out (Nat.le_refl _))
  have LA := Aside0.mk hL
  have LC := Aside0.mk hc
  have PX := Aside0.mk (F_arg hX)
  have PN := Aside0.mk hnx
  have PC := Aside0.mk hcx
  have K := Aside0.mk (Below.refl w.heap.size w)
  have HS := Aside0.mk hS
  clear hL hc hX hnx hcx hS
  go_enter Try.func4, Try.ntmps4
  go_wp2_with fail
  refine (played_c LA.out LC.out).mono ?_
  rintro e w1 ⟨ga, rfl, hD, hb⟩
  rw [← HS.out] at hD
  replace PX := Aside0.mk (Kd.F_below PX.out hb)
  replace K := Aside0.mk (K.out.trans (hb.mono K.out.size))
  have DA := Aside0.mk (hD.mono (V' := Rng w.heap.size w1.heap.size) (fun k q hl => ⟨q, hl⟩))
  have N1 := Aside0.mk (show w.heap.size ≤ w1.heap.size from hb.size)
  clear hD hb LA LC
  have Z := Aside0.mk (Nat.le_refl w1.heap.size)
  go_wp2_with fail
  refine (live_c w1).mono ?_
  rintro e w2 ⟨rfl, hb⟩
  replace PX := Aside0.mk (Kd.F_below PX.out hb)
  replace K := Aside0.mk (K.out.trans (hb.mono K.out.size))
  replace DA := Aside0.mk (DA.out.below hb)
  replace Z := Aside0.mk (Nat.le_trans Z.out hb.size)
  clear hb
  go_wp2_with fail
  have BK := Aside0.mk DA.out.ok.1
  have HPN := Aside0.mk DA.out.ok.2.1
  have HLN := Aside0.mk (show ∀ x ∈ S.P, x.2.length = 256 from fun x hx => (DA.out.ok.2.1 x hx).2.2.1)
  refine (n_image DA.out (m := 1024) (by rw [UP.out.B]; decide) (by rw [UP.out.B])).mono ?_
  rintro e w3 ⟨Yw, dw, rfl, hO, hb⟩
  have OW := Aside0.mk (own_lower hO Z.out)
  replace PX := Aside0.mk (Kd.F_below PX.out hb)
  replace K := Aside0.mk (K.out.trans (hb.mono K.out.size))
  replace DA := Aside0.mk (DA.out.below hb)
  replace Z := Aside0.mk (Nat.le_trans Z.out hb.size)
  clear hO hb
  go_wp2_with fail
  obtain ⟨N, hN⟩ : ∃ N, N = S.P.length := ⟨_, rfl⟩
  have HN := Aside0.mk hN
  have NL := Aside0.mk (show N ≤ 1000000 from by rw [hN]; exact PL.out)
  have W31 := Aside0.mk Z.out
  refine (pending_c (dk_pends DA.out PL.out) PL.out HLN.out 1048576).mono ?_
  rintro e w4 ⟨Ap, cp, rfl, hcp, hR, hb⟩
  rw [pend_big UP.out.P, ← hN] at hR hcp
  replace PX := Aside0.mk (Kd.F_below PX.out hb)
  replace K := Aside0.mk (K.out.trans (hb.mono K.out.size))
  replace DA := Aside0.mk (DA.out.below hb)
  replace Z := Aside0.mk (Nat.le_trans Z.out hb.size)
  replace OW := Aside0.mk (own_below OW.out hb)
  have ROW := Aside0.mk (Kd.R_mono hR (ok' := fun k => w1.heap.size ≤ k) (fun k hk => Nat.le_trans W31.out hk))
  rw [pend_big UP.out.P, ← hN]
  clear hb hN hR hcp
  go_wp2_with fail
  obtain ⟨T, hT, eT⟩ : ∃ T, crashS S ps = (0, T) ∧ T.B = fallB S.B (S.P.zip ps) := ⟨_, crash_up UP.out.off ps, rfl⟩
  refine (n_crash DA.out (show Kd.F (Kd.int .u8) _ _ Ax nx ps from PX.out) PN.out PC.out (fun q hq z => Nat.lt_irrefl _ (Nat.lt_of_lt_of_le hq z.1)) hT).mono ?_
  rintro e w5 ⟨rfl, hD, hf⟩
  replace PX := Aside0.mk (F_fr PX.out hf (fun q hq z => Nat.lt_irrefl _ (Nat.lt_of_lt_of_le hq z.1)))
  replace K := Aside0.mk (hf.below K.out (fun q hq => hq.1) K.out.size)
  replace Z := Aside0.mk (Nat.le_trans Z.out hf.size)
  replace OW := Aside0.mk (own_fr OW.out hf (own_no OW.out (Nat.le_refl _)))
  replace ROW := Aside0.mk (Kd.R_step ROW.out (fun k hk hlt => hf.block k hlt ((fun q hq z => Nat.lt_irrefl _ (Nat.lt_of_lt_of_le z.2 hq)) k hk)))
  replace DA := Aside0.mk hD
  have FBL := Aside0.mk (show (fallB S.B (S.P.zip ps)).length = 4 from by rw [fallB_len]; exact UP.out.B)
  have FBK := Aside0.mk (show BlkOk (fallB S.B (S.P.zip ps)) from eT ▸ hD.ok.1)
  clear hD hf
  go_wp2_with fail
  refine (n_image DA.out (m := 1024) (by rw [eT, FBL.out]; decide) (by rw [eT, FBL.out])).mono ?_
  rintro e w6 ⟨Yn, dn, rfl, hO, hb⟩
  rw [eT] at hO
  have ON := Aside0.mk (own_lower hO Z.out)
  replace PX := Aside0.mk (Kd.F_below PX.out hb)
  replace K := Aside0.mk (K.out.trans (hb.mono K.out.size))
  replace DA := Aside0.mk (DA.out.below hb)
  replace Z := Aside0.mk (Nat.le_trans Z.out hb.size)
  replace OW := Aside0.mk (own_below OW.out hb)
  replace ROW := Aside0.mk (Kd.R_below ROW.out hb)
  clear hO hb eT hT DA
  go_wp2_with fail
  have PF := Aside0.mk (Kd.R_F ROW.out)
  obtain ⟨lN, hlN⟩ : ∃ l, l = (fallB S.B (S.P.zip ps)).flatten := ⟨_, rfl⟩
  obtain ⟨lW, hlW⟩ : ∃ l, l = S.B.flatten := ⟨_, rfl⟩
  have LN := Aside0.mk (show lN.length = 1024 ∧ Bytes lN from by rw [hlN]; exact ⟨flat_1024 FBK.out FBL.out, flat_bytes FBK.out⟩)
  have LW := Aside0.mk (show lW.length = 1024 ∧ Bytes lW from by rw [hlW]; exact ⟨flat_1024 BK.out UP.out.B, flat_bytes BK.out⟩)
  have END := Aside0.mk (show ∀ k, k < 16 → okF S.P nx k (sec lN k) (sec lW k) N = true from fun k hk => by rw [hlN, hlW, HN.out, ← PN.out]; exact okF_end BK.out HPN.out (by rw [UP.out.B]; exact (k_16 hk).2.1) FBK.out)
  rw [← hlN] at ON
  rw [← hlW] at OW
  clear hlN hlW
  have B0 := Aside0.mk (Below.refl w6.heap.size w6)
  go_loopg [41] 16 (fun q v w' => ∃ (k : Nat), v = .int .i64 (k : Int) ∧ Aside0 (k + q = 16) ∧ Aside0 (Below w6.heap.size w6 w'))
  case atStart => exact ⟨0, rfl, ⟨Nat.zero_add _⟩, B0⟩
  case round =>
    clear B0
    obtain ⟨k, rfl, HJ, BB⟩ := hrel
    obtain ⟨gK, hgK⟩ : ∃ x : Nat, x = gk := ⟨_, rfl⟩
    subst hgK
    by_cases hlt : k < 16
    case pos =>
      have hgd : decide ((k : Int) < 16) = true := (di_t hlt).1
      have hgd2 : decide (k < 16) = true := (di_t hlt).2
      have HN1 := Aside0.mk (st_n HJ.out hlt).1
      have HM := Aside0.mk (st_n HJ.out hlt).2
      have HV := Aside0.mk (stepv hlt (by decide))
      have K16 := Aside0.mk (k_16 hlt)
      have HLT := Aside0.mk hlt
      have CN := Aside0.mk (cap_sec (LN.out.1 ▸ ON.out.cap) K16.out.1)
      have CW := Aside0.mk (cap_sec (LW.out.1 ▸ OW.out.cap) K16.out.1)
      clear hlt
      go_wp2_with fail
      refine (sector_c wr Yn 1024 dn k HLT.out CN.out.1).mono ?_
      rintro e w' ⟨rfl, hw⟩
      rw [hw]
      clear hw w'
      go_wp2_with fail
      refine (sector_c wr Yw 1024 dw k HLT.out CW.out.1).mono ?_
      rintro e w' ⟨rfl, hw⟩
      rw [hw]
      clear hw w'
      go_wp2_with fail
      have on := (own_below ON.out BB.out).C
      have ow := (own_below OW.out BB.out).C
      refine (equal_q (C_sec on ON.out.cap (by rw [LN.out.1]; exact K16.out.1)) (C_sec ow OW.out.cap (by rw [LW.out.1]; exact K16.out.1)) (sec_l LN.out.1 K16.out.1) (sec_l LW.out.1 K16.out.1) CN.out.2 CW.out.2 (sec_bytes LN.out.2 k) (sec_bytes LW.out.2 k)).mono ?_
      rintro e w7 ⟨rfl, m7, hm7⟩
      have B7 := Aside0.mk (show Below w6.heap.size w6 w7 from by rw [hm7]; exact BB.out.trans ((pw_below_drewN (Below.refl _ _) m7).mono BB.out.size))
      obtain ⟨b0, hb0⟩ : ∃ b, b = decide (sec lN k = sec lW k) := ⟨_, rfl⟩
      rw [← hb0]
      have OK0 := Aside0.mk (show okF S.P nx k (sec lN k) (sec lW k) 0 = b0 from hb0.symm)
      clear hm7 hb0 on ow BB
      go_wp2_with fail
      go_loopg [10, 53] N (fun q v10 v53 w' => ∃ (i : Nat) (b : Bool), v10 = .bool b ∧ v53 = .int .i64 (i : Int) ∧ Aside0 (i + q = N) ∧ Aside0 (okF S.P nx k (sec lN k) (sec lW k) i = b) ∧ Aside0 (Below w6.heap.size w6 w'))
      case atStart => exact ⟨0, b0, rfl, rfl, ⟨Nat.zero_add _⟩, OK0, B7⟩
      case round =>
        clear OK0 B7
        obtain ⟨i, b, rfl, rfl, HI, OK, BB⟩ := hrel
        by_cases hlt : i < N
        case pos =>
          have hgd : decide ((i : Int) < (N : Int)) = true := (di_t hlt).1
          have hgd2 : decide (i < N) = true := (di_t hlt).2
          have HI1 := Aside0.mk (st_n HI.out hlt).1
          have HIM := Aside0.mk (st_n HI.out hlt).2
          have HIV := Aside0.mk (stepv hlt (big_n NL.out))
          have HILT := Aside0.mk hlt
          obtain ⟨ad, Ab, cb, hAp, q0, q1, q2, q3, q4⟩ := pen_read (Kd.F_below (show Kd.F kW w6 _ Ap S.P.length S.P from HN.out ▸ PF.out) BB.out) HLN.out (show i < S.P.length from HN.out ▸ hlt)
          have XC := Aside0.mk q2
          have XF := Aside0.mk q3
          have XL := Aside0.mk q4
          have BA := Aside0.mk ((Below.refl wr.heap.size wr).alloc (Nat.le_refl _) (.cells #[.int .i64 (pI S.P i), .slice Ab 256 cb] 43))
          have BN := Aside0.mk (BB.out.trans (BA.out.mono BB.out.size))
          obtain ⟨x0, x1⟩ := box43 wr (.int .i64 (pI S.P i)) (.slice Ab 256 cb)
          have T00 := ROW
          clear T00
          clear q2 q3 q4
          subst hAp
          cases b
          case true =>
            go_wp2_with fail
            go_quiet (fail)
            go_wp2_with fail
            go_roundg (gk - 1)
            case measure => exact HIM.out
            case rel => exact ⟨i + 1, true, rfl, (by first | exact HIV.out | rfl), HI1, ⟨okF_mono _ _ _ _ _ OK.out 1⟩, ⟨BN.out.trans ((pw_below_drewN (Below.refl _ _) nq).mono BN.out.size)⟩⟩
          case false =>
            have hquo := wrap_q HLT.out
            have hrem := mod_q HLT.out
            by_cases hI : pI S.P i = ((k / 4 : Nat) : Int)
            case neg =>
              have e1 : (pI S.P i == q4 k) = false := by rw [q4_eq]; simpa using hI
              have HH := Aside0.mk (show okF S.P nx k (sec lN k) (sec lW k) (i + 1) = false from by
                show (okF S.P nx k (sec lN k) (sec lW k) i || hitS S.P nx k (sec lN k) i) = false
                rw [OK.out, Bool.false_or]
                exact decide_eq_false (fun q => hI q.1))
              clear hI
              go_wp2_with fail
              go_quiet (fail)
              go_wp2_with fail
              go_roundg (gk - 1)
              case measure => exact HIM.out
              case rel => exact ⟨i + 1, false, rfl, (by first | exact HIV.out | rfl), HI1, HH, ⟨BN.out.trans ((pw_below_drewN (Below.refl _ _) nq).mono BN.out.size)⟩⟩
            case pos =>
              have e1 : (pI S.P i == q4 k) = true := by rw [q4_eq]; simpa using hI
              by_cases hnx : i < nx
              case neg =>
                obtain ⟨hd, hd2⟩ := nlt_f hnx
                have HH := Aside0.mk (show okF S.P nx k (sec lN k) (sec lW k) (i + 1) = false from by
                  show (okF S.P nx k (sec lN k) (sec lW k) i || hitS S.P nx k (sec lN k) i) = false
                  rw [OK.out, Bool.false_or]
                  exact decide_eq_false (fun q => hnx q.2.1))
                clear hI hnx
                go_wp2_with fail
                go_quiet (fail)
                go_wp2_with fail
                go_roundg (gk - 1)
                case measure => exact HIM.out
                case rel => exact ⟨i + 1, false, rfl, (by first | exact HIV.out | rfl), HI1, HH, ⟨BN.out.trans ((pw_below_drewN (Below.refl _ _) nq).mono BN.out.size)⟩⟩
              case pos =>
                obtain ⟨hd, hd2⟩ := di_t hnx
                obtain ⟨b1, hb1⟩ : ∃ b, b = decide (sec lN k = sec (pB S.P i) (k % 4)) := ⟨_, rfl⟩
                have HH := Aside0.mk (show okF S.P nx k (sec lN k) (sec lW k) (i + 1) = b1 from by
                  show (okF S.P nx k (sec lN k) (sec lW k) i || hitS S.P nx k (sec lN k) i) = b1
                  rw [OK.out, Bool.false_or, hb1]
                  exact decide_eq_decide.2 ⟨fun q => q.2.2, fun q => ⟨hI, hnx, q⟩⟩)
                have XB := Aside0.mk (show Bytes (pB S.P i) from pB_bytes HPN.out (HN.out ▸ HILT.out))
                have CX := Aside0.mk (cap_sec XC.out K16.out.2.2.2.1)
                have EQ := Aside0.mk (show ∀ m, Calls Try.prog 20 #[.slice (cutP Yn dn (64 * k)) 64 (dn - 64 * k), .slice (cutP Ab cb (64 * (k % 4))) 64 (cb - 64 * (k % 4))] ((wr.alloc (.cells #[.int .i64 (pI S.P i), .slice Ab 256 cb] 43)).drewN m) fun e w' => e = .returned (.bool b1) ∧ ∃ q, w' = ((wr.alloc (.cells #[.int .i64 (pI S.P i), .slice Ab 256 cb] 43)).drewN m).drewN q from fun m => by
                  rw [hb1]
                  exact equal_q (C_sec (Kd.C_drewN (own_below ON.out BN.out).C m) ON.out.cap (by rw [LN.out.1]; exact K16.out.1)) (C_sec (Kd.C_drewN (Kd.F_now (Kd.F_below XF.out BA.out)) m) XC.out K16.out.2.2.2.1) (sec_l LN.out.1 K16.out.1) (sec_l XL.out K16.out.2.2.2.1) CN.out.2 CX.out.2 (sec_bytes LN.out.2 k) (sec_bytes XB.out _))
                clear hI hnx hb1
                go_wp2_with fail
                go_quiet (first
                  | (go_at_call_of 24 (Value.slice Yn 1024 dn); exact Calls.quiet_of_same (sector_c _ Yn 1024 dn k HLT.out CN.out.1))
                  | (go_at_call_of 24 (Value.slice Ab 256 cb); exact Calls.quiet_of_same (sector_r _ Ab 256 cb k CX.out.1))
                  | (go_at_call 20; exact Calls.quiet_of (EQ.out _)))
                go_wp2_with fail
                go_roundg (gk - 1)
                case measure => exact HIM.out
                case rel => exact ⟨i + 1, b1, rfl, (by first | exact HIV.out | rfl), HI1, HH, ⟨BN.out.trans ((pw_below_drewN (Below.refl _ _) nq).mono BN.out.size)⟩⟩
        have hie : i = N := en_k HI.out hlt
        clear hlt
        subst hie
        obtain ⟨hgd, hgd2⟩ := di_f (rfl : i = i)
        have hbt : b = true := OK.out.symm.trans (END.out k HLT.out)
        subst hbt
        clear OK
        go_wp2_with fail
        go_roundg (gK - 1)
        case measure => exact HM.out
        case rel => exact ⟨k + 1, by first | exact HV.out | rfl, HN1, BB⟩
    have hke : k = 16 := en_k HJ.out hlt
    subst hke
    have hge : decide (((16 : Nat) : Int) < 16) = false := by decide
    clear hlt
    go_wp2_with fail
    go_ret
    exact ⟨rfl, K.out.trans (BB.out.mono K.out.size)⟩
end Go.Proofs.Ythnadkdfgckijaa.Pure
