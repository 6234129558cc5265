/- And, Or, Sub and Within answer as the document does, for all rows. -/
import Derived.Test.YtifeimbamibkeaaClean2
import Derived.Test.YtifeimbamibkeaaPureBitsBack
namespace Go.Proofs.Ytifeimbamibkeaa.Pure
open Go.RowKit Go.Proofs.Ytifeimbamibkeaa.PAll Go.Proofs.YtifeimbamibkeaaW.PrintWords Go.Proofs.YtifeimbamibkeaaW.PrintLast Go.Proofs.YtifeimbamibkeaaW.PrintMore
attribute [local go_sem] max2_int min2_int max_two min_two
set_option linter.unusedVariables false
set_option linter.unusedSimpArgs false

set_option maxRecDepth 100000 in
set_option maxHeartbeats 4000000 in
theorem BitsSets (w : World) (A : Option Addr) (c : Nat) (l : List Int) (hw : ∀ x ∈ l, (Lit.int .u8 x).wf = true) (hl : l.length * 1 ≤ 140737488351232) (hC : Kd.C (Kd.int .u8) w A l.length l) (hc : l.length ≤ c) (A2 : Option Addr) (c2 : Nat) (l2 : List Int) (hw2 : ∀ x ∈ l2, (Lit.int .u8 x).wf = true) (hl2 : l2.length * 1 ≤ 140737488351232) (hC2 : Kd.C (Kd.int .u8) w A2 l2.length l2) (hc2 : l2.length ≤ c2) :
    Calls Try.prog 8 #[.slice A l.length c, .slice A2 l2.length c2] w fun e w' => e = .returned (.bool true) ∧ Below w.heap.size w w' := by
  have HB := Aside0.mk (bytes_wf hw)
  have HB2 := Aside0.mk (bytes_wf hw2)
  have HL := Aside0.mk (show l.length < 140737488355328 by omega)
  have HL2 := Aside0.mk (show l2.length < 140737488355328 by omega)
  have HC := Aside0.mk hC
  have HD := Aside0.mk hc
  have HC2 := Aside0.mk hC2
  have HD2 := Aside0.mk hc2
  clear hw hw2 hl hl2 hC hc hC2 hc2
  go_enter Try.func8, Try.ntmps8
  go_wp2_with fail
  refine (begun_c w).mono ?_
  rintro e w1 ⟨rfl, hb1⟩
  have K1 := Aside0.mk hb1
  have C1 := Aside0.mk (Kd.C_below HC.out hb1)
  have D1 := Aside0.mk (Kd.C_below HC2.out hb1)
  clear hb1
  go_wp2_with fail
  refine (few2 C1.out HD.out D1.out HD2.out (0, 0)).mono ?_
  rintro e w2 ⟨rfl, hb2⟩
  have K2 := Aside0.mk (K1.out.trans (hb2.mono K1.out.size))
  have C2 := Aside0.mk (Kd.C_below C1.out hb2)
  have D2 := Aside0.mk (Kd.C_below D1.out hb2)
  clear hb2
  rcases Bool.eq_false_or_eq_true (decide (l.length ≤ 3000 ∧ l2.length ≤ 3000)) with hf | hf
  case inr =>
    rw [hf]
    clear hf
    go_wp2_with fail
    refine (begun_c w2).mono ?_
    rintro e w3 ⟨rfl, hb3⟩
    have K3 := Aside0.mk (K2.out.trans (hb3.mono K2.out.size))
    clear hb3
    go_wp2
    go_ret
    exact ⟨rfl, K3.out⟩
  rw [hf]
  have hfo := Aside0.mk (of_decide_eq_true hf)
  clear hf
  obtain ⟨r0, n0, h0⟩ : ∃ r n, setA (fun x y => Go.bits .and .u8 x y) l l2 = (r, n) := ⟨_, _, rfl⟩
  have H0 := Aside0.mk h0
  clear h0
  obtain ⟨r1, n1, h1⟩ : ∃ r n, setA (fun x y => Go.bits .or .u8 x y) l l2 = (r, n) := ⟨_, _, rfl⟩
  have H1 := Aside0.mk h1
  clear h1
  obtain ⟨r2, n2, h2⟩ : ∃ r n, setA (fun x y => Go.bits .andNot .u8 x y) l l2 = (r, n) := ⟨_, _, rfl⟩
  have H2 := Aside0.mk h2
  clear h2
  go_wp2_with fail
  refine (and_c C2.out HD.out D2.out HD2.out HL.out H0.out).mono ?_
  rintro e w3 ⟨X0, x0, rfl, hx0, hX0, hb3⟩
  have K3 := Aside0.mk (K2.out.trans (hb3.mono K2.out.size))
  have C3 := Aside0.mk (Kd.C_below C2.out hb3)
  have D3 := Aside0.mk (Kd.C_below D2.out hb3)
  have X3 := Aside0.mk hX0
  have XD0 := Aside0.mk hx0
  clear hX0 hx0 hb3
  go_wp2_with fail
  refine (rand_c C3.out HD.out D3.out HD2.out HB.out HB2.out HL.out H0.out).mono ?_
  rintro e w4 ⟨Y0, y0, rfl, hy0, hY0, hb4⟩
  have K4 := Aside0.mk (K3.out.trans (hb4.mono K3.out.size))
  have C4 := Aside0.mk (Kd.C_below C3.out hb4)
  have D4 := Aside0.mk (Kd.C_below D3.out hb4)
  have X4 := Aside0.mk (Kd.C_below X3.out hb4)
  have Y4 := Aside0.mk hY0
  have YD0 := Aside0.mk hy0
  clear hY0 hy0 hb4
  go_wp2_with fail
  refine (equal_c X4.out XD0.out Y4.out YD0.out (equal_self r0)).mono ?_
  rintro e w5 ⟨rfl, hb5⟩
  have K5 := Aside0.mk (K4.out.trans (hb5.mono K4.out.size))
  have C5 := Aside0.mk (Kd.C_below C4.out hb5)
  have D5 := Aside0.mk (Kd.C_below D4.out hb5)
  clear hb5
  go_wp2_with fail
  refine (or_c C5.out HD.out D5.out HD2.out HL.out H1.out).mono ?_
  rintro e w6 ⟨X1, x1, rfl, hx1, hX1, hb6⟩
  have K6 := Aside0.mk (K5.out.trans (hb6.mono K5.out.size))
  have C6 := Aside0.mk (Kd.C_below C5.out hb6)
  have D6 := Aside0.mk (Kd.C_below D5.out hb6)
  have X6 := Aside0.mk hX1
  have XD1 := Aside0.mk hx1
  clear hX1 hx1 hb6
  go_wp2_with fail
  refine (ror_c C6.out HD.out D6.out HD2.out HB.out HB2.out HL.out H1.out).mono ?_
  rintro e w7 ⟨Y1, y1, rfl, hy1, hY1, hb7⟩
  have K7 := Aside0.mk (K6.out.trans (hb7.mono K6.out.size))
  have C7 := Aside0.mk (Kd.C_below C6.out hb7)
  have D7 := Aside0.mk (Kd.C_below D6.out hb7)
  have X7 := Aside0.mk (Kd.C_below X6.out hb7)
  have Y7 := Aside0.mk hY1
  have YD1 := Aside0.mk hy1
  clear hY1 hy1 hb7
  go_wp2_with fail
  refine (equal_c X7.out XD1.out Y7.out YD1.out (equal_self r1)).mono ?_
  rintro e w8 ⟨rfl, hb8⟩
  have K8 := Aside0.mk (K7.out.trans (hb8.mono K7.out.size))
  have C8 := Aside0.mk (Kd.C_below C7.out hb8)
  have D8 := Aside0.mk (Kd.C_below D7.out hb8)
  clear hb8
  go_wp2_with fail
  refine (sub_c C8.out HD.out D8.out HD2.out HL.out H2.out).mono ?_
  rintro e w9 ⟨X2, x2, rfl, hx2, hX2, hb9⟩
  have K9 := Aside0.mk (K8.out.trans (hb9.mono K8.out.size))
  have C9 := Aside0.mk (Kd.C_below C8.out hb9)
  have D9 := Aside0.mk (Kd.C_below D8.out hb9)
  have X9 := Aside0.mk hX2
  have XD2 := Aside0.mk hx2
  clear hX2 hx2 hb9
  go_wp2_with fail
  refine (rsub_c C9.out HD.out D9.out HD2.out HB.out HB2.out HL.out H2.out).mono ?_
  rintro e w10 ⟨Y2, y2, rfl, hy2, hY2, hb10⟩
  have K10 := Aside0.mk (K9.out.trans (hb10.mono K9.out.size))
  have C10 := Aside0.mk (Kd.C_below C9.out hb10)
  have D10 := Aside0.mk (Kd.C_below D9.out hb10)
  have X10 := Aside0.mk (Kd.C_below X9.out hb10)
  have Y10 := Aside0.mk hY2
  have YD2 := Aside0.mk hy2
  clear hY2 hy2 hb10
  go_wp2_with fail
  refine (equal_c X10.out XD2.out Y10.out YD2.out (equal_self r2)).mono ?_
  rintro e w11 ⟨rfl, hb11⟩
  have K11 := Aside0.mk (K10.out.trans (hb11.mono K10.out.size))
  have C11 := Aside0.mk (Kd.C_below C10.out hb11)
  have D11 := Aside0.mk (Kd.C_below D10.out hb11)
  clear hb11
  go_wp2_with fail
  refine (within_c C11.out HD.out D11.out HD2.out HB.out HB2.out HL.out HL2.out).mono ?_
  rintro e w12 ⟨rfl, hb12⟩
  have K12 := Aside0.mk (K11.out.trans (hb12.mono K11.out.size))
  have C12 := Aside0.mk (Kd.C_below C11.out hb12)
  have D12 := Aside0.mk (Kd.C_below D11.out hb12)
  clear hb12
  go_wp2_with fail
  refine (rwithin_c C12.out HD.out D12.out HD2.out HB.out HB2.out HL.out HL2.out).mono ?_
  rintro e w13 ⟨rfl, hb13⟩
  have K13 := Aside0.mk (K12.out.trans (hb13.mono K12.out.size))
  clear hb13
  go_wp2_with fail
  go_ret
  exact ⟨by simp, K13.out⟩
end Go.Proofs.Ytifeimbamibkeaa.Pure
