/- Counts of what two rows have together, for all rows. -/
import Derived.Test.YtifeimbamibkeaaClean2
import Derived.Test.YtifeimbamibkeaaPureBitsBack
namespace Go.Proofs.Ytifeimbamibkeaa.Pure
open Go.RowKit Go.Proofs.Ytifeimbamibkeaa.PAll Go.Proofs.YtifeimbamibkeaaW.PrintWords Go.Proofs.YtifeimbamibkeaaW.PrintLast Go.Proofs.YtifeimbamibkeaaW.PrintMore
attribute [local go_sem] max2_int min2_int max_two min_two
set_option linter.unusedVariables false
set_option linter.unusedSimpArgs false

set_option maxRecDepth 100000 in
set_option maxHeartbeats 4000000 in
theorem BitsCounts (w : World) (A : Option Addr) (c : Nat) (l : List Int) (hw : ∀ x ∈ l, (Lit.int .u8 x).wf = true) (hl : l.length * 1 ≤ 140737488351232) (hC : Kd.C (Kd.int .u8) w A l.length l) (hc : l.length ≤ c) (A2 : Option Addr) (c2 : Nat) (l2 : List Int) (hw2 : ∀ x ∈ l2, (Lit.int .u8 x).wf = true) (hl2 : l2.length * 1 ≤ 140737488351232) (hC2 : Kd.C (Kd.int .u8) w A2 l2.length l2) (hc2 : l2.length ≤ c2) :
    Calls Try.prog 9 #[.slice A l.length c, .slice A2 l2.length c2] w fun e w' => e = .returned (.bool true) ∧ Below w.heap.size w w' := by
  have HB := Aside0.mk (bytes_wf hw)
  have HB2 := Aside0.mk (bytes_wf hw2)
  have HL := Aside0.mk (show l.length < 140737488355328 by omega)
  have HL2 := Aside0.mk (show l2.length < 140737488355328 by omega)
  have HC := Aside0.mk hC
  have HD := Aside0.mk hc
  have HC2 := Aside0.mk hC2
  have HD2 := Aside0.mk hc2
  clear hw hw2 hl hl2 hC hc hC2 hc2
  go_enter Try.func9, Try.ntmps9
  go_wp2_with fail
  refine (begun_c w).mono ?_
  rintro e w1 ⟨rfl, hb1⟩
  have K1 := Aside0.mk hb1
  have C1 := Aside0.mk (Kd.C_below HC.out hb1)
  have D1 := Aside0.mk (Kd.C_below HC2.out hb1)
  clear hb1
  go_wp2_with fail
  refine (few2 C1.out HD.out D1.out HD2.out (0, 0)).mono ?_
  rintro e w2 ⟨rfl, hb2⟩
  have K2 := Aside0.mk (K1.out.trans (hb2.mono K1.out.size))
  have C2 := Aside0.mk (Kd.C_below C1.out hb2)
  have D2 := Aside0.mk (Kd.C_below D1.out hb2)
  clear hb2
  rcases Bool.eq_false_or_eq_true (decide (l.length ≤ 3000 ∧ l2.length ≤ 3000)) with hf | hf
  case inr =>
    rw [hf]
    clear hf
    go_wp2_with fail
    refine (begun_c w2).mono ?_
    rintro e w3 ⟨rfl, hb3⟩
    have K3 := Aside0.mk (K2.out.trans (hb3.mono K2.out.size))
    clear hb3
    go_wp2
    go_ret
    exact ⟨rfl, K3.out⟩
  rw [hf]
  have hfo := Aside0.mk (of_decide_eq_true hf)
  clear hf
  by_cases hq : l.length = l2.length
  case neg =>
    have e1 : ((l.length : Int) != (l2.length : Int)) = true := by rw [bne_iff_ne]; omega
    have e2 : (l.length != l2.length) = true := by rw [bne_iff_ne]; exact hq
    have e3 : (l.length == l2.length) = false := by rw [beq_eq_false_iff_ne]; exact hq
    clear hq
    go_wp2_with fail
    refine (begun_c w2).mono ?_
    rintro e w3 ⟨rfl, hb3⟩
    have K3 := Aside0.mk (K2.out.trans (hb3.mono K2.out.size))
    clear hb3
    go_wp2
    go_ret
    exact ⟨rfl, K3.out⟩
  have e1 : ((l.length : Int) != (l2.length : Int)) = false := by rw [hq]; simp
  have e2 : (l.length != l2.length) = false := by rw [hq]; simp
  have HQ := Aside0.mk hq
  clear hq
  obtain ⟨r0, g0⟩ : ∃ r, r = List.zipWith (fun x y => Go.bits .and .u8 x y) l l2 := ⟨_, rfl⟩
  have H0 := Aside0.mk (show setA (fun x y => Go.bits .and .u8 x y) l l2 = (r0, 0) by unfold setA; rw [if_pos HQ.out, g0])
  have L0 := Aside0.mk (show r0.length = l.length by rw [g0, List.length_zipWith, ← HQ.out, Nat.min_self])
  have B0 := Aside0.mk (show Bytes r0 by rw [g0]; exact zip_bytes bw_and HB.out HB2.out)
  obtain ⟨r1, g1⟩ : ∃ r, r = List.zipWith (fun x y => Go.bits .or .u8 x y) l l2 := ⟨_, rfl⟩
  have H1 := Aside0.mk (show setA (fun x y => Go.bits .or .u8 x y) l l2 = (r1, 0) by unfold setA; rw [if_pos HQ.out, g1])
  have L1 := Aside0.mk (show r1.length = l.length by rw [g1, List.length_zipWith, ← HQ.out, Nat.min_self])
  have B1 := Aside0.mk (show Bytes r1 by rw [g1]; exact zip_bytes bw_or HB.out HB2.out)
  obtain ⟨r2, g2⟩ : ∃ r, r = List.zipWith (fun x y => Go.bits .andNot .u8 x y) l l2 := ⟨_, rfl⟩
  have H2 := Aside0.mk (show setA (fun x y => Go.bits .andNot .u8 x y) l l2 = (r2, 0) by unfold setA; rw [if_pos HQ.out, g2])
  have L2 := Aside0.mk (show r2.length = l.length by rw [g2, List.length_zipWith, ← HQ.out, Nat.min_self])
  have B2 := Aside0.mk (show Bytes r2 by rw [g2]; exact zip_bytes bw_sub HB.out HB2.out)
  have S0 := Aside0.mk (show ones r0 (8 * r0.length) + ones r1 (8 * r1.length) = ones l (8 * l.length) + ones l2 (8 * l2.length) by rw [L0.out, L1.out, ← HQ.out, g0, g1]; exact ones_and_or HB.out HB2.out HQ.out _ (Nat.le_refl _))
  have S1 := Aside0.mk (show ones r0 (8 * r0.length) + ones r2 (8 * r2.length) = ones l (8 * l.length) by rw [L0.out, L2.out, g0, g2]; exact ones_and_sub HB.out HB2.out HQ.out _ (Nat.le_refl _))
  have S2 := Aside0.mk (show withinB l l2 = decide (ones r2 (8 * r2.length) = 0) by rw [L2.out, g2]; exact within_sub HB.out HB2.out HQ.out HL.out)
  have S3 := Aside0.mk (show withinB r0 l = true by rw [g0]; exact within_and HB.out HB2.out HQ.out HL.out)
  have S4 := Aside0.mk (show withinB l r1 = true by rw [g1]; exact within_or HB.out HB2.out HQ.out HL.out)
  have M0 := Aside0.mk (ones_le r0 (8 * r0.length))
  have M1 := Aside0.mk (ones_le r1 (8 * r1.length))
  have M2 := Aside0.mk (ones_le r2 (8 * r2.length))
  clear g0 g1 g2
  go_wp2_with fail
  refine (and_c C2.out HD.out D2.out HD2.out HL.out H0.out).mono ?_
  rintro e w3 ⟨X0, x0, rfl, hx0, hX0, hb3⟩
  have K3 := Aside0.mk (K2.out.trans (hb3.mono K2.out.size))
  have C3 := Aside0.mk (Kd.C_below C2.out hb3)
  have D3 := Aside0.mk (Kd.C_below D2.out hb3)
  have P3 := Aside0.mk hX0
  have XD0 := Aside0.mk hx0
  clear hX0 hx0 hb3
  go_wp2_with fail
  refine (or_c C3.out HD.out D3.out HD2.out HL.out H1.out).mono ?_
  rintro e w4 ⟨X1, x1, rfl, hx1, hX1, hb4⟩
  have K4 := Aside0.mk (K3.out.trans (hb4.mono K3.out.size))
  have C4 := Aside0.mk (Kd.C_below C3.out hb4)
  have D4 := Aside0.mk (Kd.C_below D3.out hb4)
  have P4 := Aside0.mk (Kd.C_below P3.out hb4)
  have Q4 := Aside0.mk hX1
  have XD1 := Aside0.mk hx1
  clear hX1 hx1 hb4
  go_wp2_with fail
  refine (sub_c C4.out HD.out D4.out HD2.out HL.out H2.out).mono ?_
  rintro e w5 ⟨X2, x2, rfl, hx2, hX2, hb5⟩
  have K5 := Aside0.mk (K4.out.trans (hb5.mono K4.out.size))
  have C5 := Aside0.mk (Kd.C_below C4.out hb5)
  have D5 := Aside0.mk (Kd.C_below D4.out hb5)
  have P5 := Aside0.mk (Kd.C_below P4.out hb5)
  have Q5 := Aside0.mk (Kd.C_below Q4.out hb5)
  have R5 := Aside0.mk hX2
  have XD2 := Aside0.mk hx2
  clear hX2 hx2 hb5
  obtain ⟨o0, E0⟩ : ∃ o, o = ones r0 (8 * r0.length) := ⟨_, rfl⟩
  obtain ⟨o1, E1⟩ : ∃ o, o = ones r1 (8 * r1.length) := ⟨_, rfl⟩
  obtain ⟨o2, E2⟩ : ∃ o, o = ones r2 (8 * r2.length) := ⟨_, rfl⟩
  obtain ⟨oa, Ea⟩ : ∃ o, o = ones l (8 * l.length) := ⟨_, rfl⟩
  obtain ⟨ob, Eb⟩ : ∃ o, o = ones l2 (8 * l2.length) := ⟨_, rfl⟩
  have F0 := Aside0.mk E0
  have F1 := Aside0.mk E1
  have F2 := Aside0.mk E2
  have Fa := Aside0.mk Ea
  have Fb := Aside0.mk Eb
  clear E0 E1 E2 Ea Eb
  have s0 : o0 + o1 = oa + ob := by rw [F0.out, F1.out, Fa.out, Fb.out]; exact S0.out
  have s1 : o0 + o2 = oa := by rw [F0.out, F2.out, Fa.out]; exact S1.out
  have b0 : o0 < 1125899906842624 := by have := M0.out; rw [← F0.out, L0.out] at this; have := HL.out; omega
  have b1 : o1 < 1125899906842624 := by have := M1.out; rw [← F1.out, L1.out] at this; have := HL.out; omega
  have b2 : o2 < 1125899906842624 := by have := M2.out; rw [← F2.out, L2.out] at this; have := HL.out; omega
  have a0 : IntKind.i64.wrap ((o0 : Int) + (o1 : Int)) = ((o0 + o1 : Nat) : Int) := by rw [i64_w, w64id (by omega) (by omega)]; omega
  have a1 : IntKind.i64.wrap ((oa : Int) + (ob : Int)) = ((o0 + o1 : Nat) : Int) := by rw [i64_w, w64id (by omega) (by omega)]; omega
  have a2 : IntKind.i64.wrap ((o0 : Int) + (o2 : Int)) = ((oa : Nat) : Int) := by rw [i64_w, w64id (by omega) (by omega)]; omega
  have wz : withinB l l2 = decide (o2 = 0) := by rw [F2.out]; exact S2.out
  have wy : ((o2 : Int) == 0) = decide (o2 = 0) := by rw [Bool.eq_iff_iff, beq_iff_eq, decide_eq_true_eq]; omega
  clear s0 s1 b0 b1 b2
  have WZ := Aside0.mk wz
  have WY := Aside0.mk wy
  clear wz wy
  go_wp2_with fail
  have Q6c := count_c P5.out XD0.out B0.out (by rw [L0.out]; exact HL.out)
  rw [← F0.out] at Q6c
  refine (Q6c).mono ?_
  rintro e w6 ⟨rfl, hb6⟩
  have K6 := Aside0.mk (K5.out.trans (hb6.mono K5.out.size))
  have C6 := Aside0.mk (Kd.C_below C5.out hb6)
  have D6 := Aside0.mk (Kd.C_below D5.out hb6)
  have P6 := Aside0.mk (Kd.C_below P5.out hb6)
  have Q6 := Aside0.mk (Kd.C_below Q5.out hb6)
  have R6 := Aside0.mk (Kd.C_below R5.out hb6)
  clear hb6 Q6c
  go_wp2_with fail
  have Q7c := count_c Q6.out XD1.out B1.out (by rw [L1.out]; exact HL.out)
  rw [← F1.out] at Q7c
  refine (Q7c).mono ?_
  rintro e w7 ⟨rfl, hb7⟩
  have K7 := Aside0.mk (K6.out.trans (hb7.mono K6.out.size))
  have C7 := Aside0.mk (Kd.C_below C6.out hb7)
  have D7 := Aside0.mk (Kd.C_below D6.out hb7)
  have P7 := Aside0.mk (Kd.C_below P6.out hb7)
  have Q7 := Aside0.mk (Kd.C_below Q6.out hb7)
  have R7 := Aside0.mk (Kd.C_below R6.out hb7)
  clear hb7 Q7c
  go_wp2_with fail
  have Q8c := count_c C7.out HD.out HB.out HL.out
  rw [← Fa.out] at Q8c
  refine (Q8c).mono ?_
  rintro e w8 ⟨rfl, hb8⟩
  have K8 := Aside0.mk (K7.out.trans (hb8.mono K7.out.size))
  have C8 := Aside0.mk (Kd.C_below C7.out hb8)
  have D8 := Aside0.mk (Kd.C_below D7.out hb8)
  have P8 := Aside0.mk (Kd.C_below P7.out hb8)
  have Q8 := Aside0.mk (Kd.C_below Q7.out hb8)
  have R8 := Aside0.mk (Kd.C_below R7.out hb8)
  clear hb8 Q8c
  go_wp2_with fail
  have Q9c := count_c D8.out HD2.out HB2.out HL2.out
  rw [← Fb.out] at Q9c
  refine (Q9c).mono ?_
  rintro e w9 ⟨rfl, hb9⟩
  have K9 := Aside0.mk (K8.out.trans (hb9.mono K8.out.size))
  have C9 := Aside0.mk (Kd.C_below C8.out hb9)
  have D9 := Aside0.mk (Kd.C_below D8.out hb9)
  have P9 := Aside0.mk (Kd.C_below P8.out hb9)
  have Q9 := Aside0.mk (Kd.C_below Q8.out hb9)
  have R9 := Aside0.mk (Kd.C_below R8.out hb9)
  clear hb9 Q9c
  go_wp2_with fail
  have Q10c := count_c P9.out XD0.out B0.out (by rw [L0.out]; exact HL.out)
  rw [← F0.out] at Q10c
  refine (Q10c).mono ?_
  rintro e w10 ⟨rfl, hb10⟩
  have K10 := Aside0.mk (K9.out.trans (hb10.mono K9.out.size))
  have C10 := Aside0.mk (Kd.C_below C9.out hb10)
  have D10 := Aside0.mk (Kd.C_below D9.out hb10)
  have P10 := Aside0.mk (Kd.C_below P9.out hb10)
  have Q10 := Aside0.mk (Kd.C_below Q9.out hb10)
  have R10 := Aside0.mk (Kd.C_below R9.out hb10)
  clear hb10 Q10c
  go_wp2_with fail
  have Q11c := count_c R10.out XD2.out B2.out (by rw [L2.out]; exact HL.out)
  rw [← F2.out] at Q11c
  refine (Q11c).mono ?_
  rintro e w11 ⟨rfl, hb11⟩
  have K11 := Aside0.mk (K10.out.trans (hb11.mono K10.out.size))
  have C11 := Aside0.mk (Kd.C_below C10.out hb11)
  have D11 := Aside0.mk (Kd.C_below D10.out hb11)
  have P11 := Aside0.mk (Kd.C_below P10.out hb11)
  have Q11 := Aside0.mk (Kd.C_below Q10.out hb11)
  have R11 := Aside0.mk (Kd.C_below R10.out hb11)
  clear hb11 Q11c
  go_wp2_with fail
  have Q12c := count_c C11.out HD.out HB.out HL.out
  rw [← Fa.out] at Q12c
  refine (Q12c).mono ?_
  rintro e w12 ⟨rfl, hb12⟩
  have K12 := Aside0.mk (K11.out.trans (hb12.mono K11.out.size))
  have C12 := Aside0.mk (Kd.C_below C11.out hb12)
  have D12 := Aside0.mk (Kd.C_below D11.out hb12)
  have P12 := Aside0.mk (Kd.C_below P11.out hb12)
  have Q12 := Aside0.mk (Kd.C_below Q11.out hb12)
  have R12 := Aside0.mk (Kd.C_below R11.out hb12)
  clear hb12 Q12c
  go_wp2_with fail
  have Q13c := within_c C12.out HD.out D12.out HD2.out HB.out HB2.out HL.out HL2.out
  rw [WZ.out] at Q13c
  refine (Q13c).mono ?_
  rintro e w13 ⟨rfl, hb13⟩
  have K13 := Aside0.mk (K12.out.trans (hb13.mono K12.out.size))
  have C13 := Aside0.mk (Kd.C_below C12.out hb13)
  have D13 := Aside0.mk (Kd.C_below D12.out hb13)
  have P13 := Aside0.mk (Kd.C_below P12.out hb13)
  have Q13 := Aside0.mk (Kd.C_below Q12.out hb13)
  have R13 := Aside0.mk (Kd.C_below R12.out hb13)
  clear hb13 Q13c
  go_wp2_with fail
  have Q14c := count_c R13.out XD2.out B2.out (by rw [L2.out]; exact HL.out)
  rw [← F2.out] at Q14c
  refine (Q14c).mono ?_
  rintro e w14 ⟨rfl, hb14⟩
  have K14 := Aside0.mk (K13.out.trans (hb14.mono K13.out.size))
  have C14 := Aside0.mk (Kd.C_below C13.out hb14)
  have D14 := Aside0.mk (Kd.C_below D13.out hb14)
  have P14 := Aside0.mk (Kd.C_below P13.out hb14)
  have Q14 := Aside0.mk (Kd.C_below Q13.out hb14)
  have R14 := Aside0.mk (Kd.C_below R13.out hb14)
  clear hb14 Q14c
  have wy := WY.out
  go_wp2_with fail
  have Q15c := within_c P14.out XD0.out C14.out HD.out B0.out HB.out (by rw [L0.out]; exact HL.out) HL.out
  rw [S3.out] at Q15c
  refine (Q15c).mono ?_
  rintro e w15 ⟨rfl, hb15⟩
  have K15 := Aside0.mk (K14.out.trans (hb15.mono K14.out.size))
  have C15 := Aside0.mk (Kd.C_below C14.out hb15)
  have D15 := Aside0.mk (Kd.C_below D14.out hb15)
  have P15 := Aside0.mk (Kd.C_below P14.out hb15)
  have Q15 := Aside0.mk (Kd.C_below Q14.out hb15)
  have R15 := Aside0.mk (Kd.C_below R14.out hb15)
  clear hb15 Q15c
  go_wp2_with fail
  have Q16c := within_c C15.out HD.out Q15.out XD1.out HB.out B1.out HL.out (by rw [L1.out]; exact HL.out)
  rw [S4.out] at Q16c
  refine (Q16c).mono ?_
  rintro e w16 ⟨rfl, hb16⟩
  have K16 := Aside0.mk (K15.out.trans (hb16.mono K15.out.size))
  clear hb16 Q16c
  go_wp2_with fail
  go_ret
  exact ⟨by simp, K16.out⟩
end Go.Proofs.Ytifeimbamibkeaa.Pure
