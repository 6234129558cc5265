/- New, Span and Check answer as the document does; for all numbers and rows. -/
import Derived.Test.YtifeimbamibkeaaMakes
import Derived.Test.YtifeimbamibkeaaPureBitsBack
namespace Go.Proofs.Ytifeimbamibkeaa.Pure
open Go.RowKit Go.Proofs.Ytifeimbamibkeaa.PAll Go.Proofs.YtifeimbamibkeaaW.PrintWords Go.Proofs.YtifeimbamibkeaaW.PrintLast Go.Proofs.YtifeimbamibkeaaW.PrintMore
attribute [local go_sem] max2_int min2_int max_two min_two
set_option linter.unusedVariables false
set_option linter.unusedSimpArgs false

set_option maxRecDepth 100000 in
set_option maxHeartbeats 4000000 in
theorem BitsMakes (w : World) (n : Int) (hn : (Lit.int .i64 n).wf = true) (f : Int) (hf : (Lit.int .i64 f).wf = true) (t : Int) (ht : (Lit.int .i64 t).wf = true) (A : Option Addr) (c : Nat) (l : List Int) (hw : ∀ x ∈ l, (Lit.int .u8 x).wf = true) (hl : l.length * 1 ≤ 140737488351232) (hC : Kd.C (Kd.int .u8) w A l.length l) (hc : l.length ≤ c) :
    Calls Try.prog 3 #[.int .i64 n, .int .i64 f, .int .i64 t, .slice A l.length c] w fun e w' => e = .returned (.bool true) ∧ Below w.heap.size w w' := by
  have HB := Aside0.mk (bytes_wf hw)
  have HL := Aside0.mk (show l.length < 140737488355328 by omega)
  have HC := Aside0.mk hC
  have HD := Aside0.mk hc
  clear hw hl hC hc hn hf ht
  obtain ⟨r, e, hr⟩ : ∃ r e, newA n = (r, e) := ⟨_, _, rfl⟩
  obtain ⟨s, m, hs⟩ : ∃ s m, spanA n f t = (s, m) := ⟨_, _, rfl⟩
  have HR := Aside0.mk hr
  have HS := Aside0.mk hs
  have HM := Aside0.mk (show m = 0 ∨ m = 1 by have := spanA_two n f t; rw [hs] at this; exact this)
  obtain ⟨q, hq⟩ : ∃ q, checkA l n = q := ⟨_, rfl⟩
  have HQ := Aside0.mk hq
  clear hr hs hq
  go_enter Try.func3, Try.ntmps3
  go_wp2_with fail
  refine (begun_c w).mono ?_
  rintro e w1 ⟨rfl, hb1⟩
  have K1 := Aside0.mk hb1
  have C1 := Aside0.mk (Kd.C_below HC.out hb1)
  clear hb1
  go_wp2_with fail
  refine (few1 C1.out HD.out (0, 0)).mono ?_
  rintro e w2 ⟨rfl, hb2⟩
  have K2 := Aside0.mk (K1.out.trans (hb2.mono K1.out.size))
  have C2 := Aside0.mk (Kd.C_below C1.out hb2)
  clear hb2
  rcases Bool.eq_false_or_eq_true (decide (l.length ≤ 3000)) with hf | hf
  case inr =>
    rw [hf]
    clear hf
    go_wp2_with fail
    refine (begun_c w2).mono ?_
    rintro e w3 ⟨rfl, hb3⟩
    have K3 := Aside0.mk (K2.out.trans (hb3.mono K2.out.size))
    clear hb3
    go_wp2
    go_ret
    exact ⟨rfl, K3.out⟩
  rw [hf]
  clear hf
  go_wp2_with fail
  refine (new_c HR.out).mono ?_
  rintro e w3 ⟨X, x, rfl, hx, hX, hb3⟩
  have K3 := Aside0.mk (K2.out.trans (hb3.mono K2.out.size))
  have C3 := Aside0.mk (Kd.C_below C2.out hb3)
  clear hb3
  have X3 := Aside0.mk hX
  have XD := Aside0.mk hx
  clear hX hx
  go_wp2_with fail
  refine (rnew_c HR.out).mono ?_
  rintro e w4 ⟨Y, y, rfl, hy, hY, hb4⟩
  have K4 := Aside0.mk (K3.out.trans (hb4.mono K3.out.size))
  have C4 := Aside0.mk (Kd.C_below C3.out hb4)
  have X4 := Aside0.mk (Kd.C_below X3.out hb4)
  clear hb4
  have Y4 := Aside0.mk hY
  have YD := Aside0.mk hy
  clear hY hy
  go_wp2_with fail
  refine (equal_c X4.out XD.out Y4.out YD.out (equal_self r)).mono ?_
  rintro e w5 ⟨rfl, hb5⟩
  have K5 := Aside0.mk (K4.out.trans (hb5.mono K4.out.size))
  have C5 := Aside0.mk (Kd.C_below C4.out hb5)
  clear hb5
  have Q6 := check_c C5.out HD.out HB.out HL.out n
  rw [HQ.out] at Q6
  go_wp2_with fail
  refine (Q6).mono ?_
  rintro e w6 ⟨rfl, hb6⟩
  have K6 := Aside0.mk (K5.out.trans (hb6.mono K5.out.size))
  have C6 := Aside0.mk (Kd.C_below C5.out hb6)
  clear hb6
  have Q7 := rcheck_c C6.out HD.out HB.out HL.out n
  rw [HQ.out] at Q7
  clear Q6
  go_wp2_with fail
  refine (Q7).mono ?_
  rintro e w7 ⟨rfl, hb7⟩
  have K7 := Aside0.mk (K6.out.trans (hb7.mono K6.out.size))
  have C7 := Aside0.mk (Kd.C_below C6.out hb7)
  clear hb7
  clear Q7
  go_wp2_with fail
  refine (span_c HS.out).mono ?_
  rintro e w8 ⟨Z, z, rfl, hz, hZ, hb8⟩
  have K8 := Aside0.mk (K7.out.trans (hb8.mono K7.out.size))
  have C8 := Aside0.mk (Kd.C_below C7.out hb8)
  clear hb8
  have Z8 := Aside0.mk hZ
  have ZD := Aside0.mk hz
  clear hZ hz
  by_cases h4 : n > 4000
  · have d4 : decide (n > 4000) = true := decide_eq_true h4
    clear h4
    rcases HM.out with h0 | h0
    · subst h0
      go_wp2_with fail
      go_ret
      exact ⟨by simp, K8.out⟩
    · subst h0
      go_wp2_with fail
      go_ret
      exact ⟨by simp, K8.out⟩
  have d4 : decide (n > 4000) = false := decide_eq_false h4
  clear h4
  go_wp2_with fail
  refine (rspan_c HS.out).mono ?_
  rintro e w9 ⟨V, v, rfl, hv, hV, hb9⟩
  have K9 := Aside0.mk (K8.out.trans (hb9.mono K8.out.size))
  have Z9 := Aside0.mk (Kd.C_below Z8.out hb9)
  clear hb9
  have V9 := Aside0.mk hV
  have VD := Aside0.mk hv
  clear hV hv
  go_wp2_with fail
  refine (equal_c Z9.out ZD.out V9.out VD.out (equal_self s)).mono ?_
  rintro e w10 ⟨rfl, hb10⟩
  have K10 := Aside0.mk (K9.out.trans (hb10.mono K9.out.size))
  clear hb10
  go_wp2_with fail
  go_ret
  exact ⟨by simp, K10.out⟩
end Go.Proofs.Ytifeimbamibkeaa.Pure
