/- The data of any slot, and the slot with other ones, are the document's. -/
import Derived.Test.YtckdnkiacnonkaaRefs
namespace Go.Proofs.Ytckdnkiacnonkaa.Pure
open Go.RowKit Go.Proofs.Ytckdnkiacnonkaa.PAll Go.Proofs.Ytckdnkiacnonkaa.Mem Go.Proofs.YtckdnkiacnonkaaW.PrintWords Go.Proofs.YtckdnkiacnonkaaW.PrintLast Go.Proofs.YtckdnkiacnonkaaW.PrintMore
set_option linter.unusedVariables false
set_option linter.unusedSimpArgs false

theorem wf64 {a : Int} (h : (Lit.int .i64 a).wf = true) : -9223372036854775808 ≤ a ∧ a ≤ 9223372036854775807 := by
  simp [Lit.wf, IntKind.min, IntKind.max, IntKind.signed, IntKind.bits] at h
  omega
set_option maxRecDepth 100000 in
set_option maxHeartbeats 4000000 in
theorem ObjectData (w : World) (A : Option Addr) (c : Nat) (l : List Int) (hw : ∀ x ∈ l, (Lit.int .u8 x).wf = true) (hl : l.length * 1 ≤ 140737488351232) (hC : Kd.C (Kd.int .u8) w A l.length l) (hc : l.length ≤ c) (i : Int) (hi : (Lit.int .i64 i).wf = true)
    (A2 : Option Addr) (c2 : Nat) (x : List Int) (hw2 : ∀ x_1 ∈ x, (Lit.int .u8 x_1).wf = true) (hl2 : x.length * 1 ≤ 140737488351232) (hC2 : Kd.C (Kd.int .u8) w A2 x.length x) (hc2 : x.length ≤ c2) :
    Calls Try.prog 4 #[.slice A l.length c, .int .i64 i, .slice A2 x.length c2] w fun e w' => e = .returned (.bool true) ∧ Below w.heap.size w w' := by
  have HB := Aside0.mk (bytes_wf hw)
  have HL := Aside0.mk (show l.length ≤ 140737488351232 by omega)
  have HX := Aside0.mk (show x.length ≤ 140737488351232 by omega)
  have HC := Aside0.mk hC
  have HD := Aside0.mk hc
  have HC2 := Aside0.mk hC2
  have HD2 := Aside0.mk hc2
  obtain ⟨r, n, hr⟩ : ∃ r n, DA l = (r, n) := ⟨_, _, rfl⟩
  obtain ⟨s, m, hs⟩ : ∃ s m, SD l i x = (s, m) := ⟨_, _, rfl⟩
  have HR := Aside0.mk hr
  have HS := Aside0.mk hs
  clear hw hl hC hc hi hw2 hl2 hC2 hc2 hr hs
  go_enter Try.func4, Try.ntmps4
  go_wp2_with fail
  refine (Data_c HC.out HD.out HB.out HL.out HR.out).mono ?_
  rintro e w1 ⟨P, p, rfl, hp, hP, hb1⟩
  have K1 := Aside0.mk hb1
  have C1 := Aside0.mk (Kd.C_below HC.out hb1)
  have X1 := Aside0.mk (Kd.C_below HC2.out hb1)
  have P1 := Aside0.mk hP
  have PD := Aside0.mk hp
  clear hb1 hP hp
  go_wp2_with fail
  refine (rData_c C1.out HD.out HB.out HL.out HR.out).mono ?_
  rintro e w2 ⟨Q, q, rfl, hp, hP, hb2⟩
  have K2 := Aside0.mk (K1.out.trans (hb2.mono K1.out.size))
  have C2 := Aside0.mk (Kd.C_below C1.out hb2)
  have X2 := Aside0.mk (Kd.C_below X1.out hb2)
  have P2 := Aside0.mk (Kd.C_below P1.out hb2)
  have Q2 := Aside0.mk hP
  have QD := Aside0.mk hp
  clear hb2 hP hp
  go_wp2_with fail
  refine (SetData_c C2.out HD.out HB.out HL.out X2.out HD2.out HX.out HS.out).mono ?_
  rintro e w3 ⟨U, u, rfl, hp, hP, hb3⟩
  have K3 := Aside0.mk (K2.out.trans (hb3.mono K2.out.size))
  have C3 := Aside0.mk (Kd.C_below C2.out hb3)
  have X3 := Aside0.mk (Kd.C_below X2.out hb3)
  have P3 := Aside0.mk (Kd.C_below P2.out hb3)
  have Q3 := Aside0.mk (Kd.C_below Q2.out hb3)
  have U3 := Aside0.mk hP
  have UD := Aside0.mk hp
  clear hb3 hP hp
  go_wp2_with fail
  refine (rSetData_c C3.out HD.out X3.out HD2.out HB.out HL.out HX.out HS.out).mono ?_
  rintro e w4 ⟨V, v, rfl, hp, hP, hb4⟩
  have K4 := Aside0.mk (K3.out.trans (hb4.mono K3.out.size))
  have P4 := Aside0.mk (Kd.C_below P3.out hb4)
  have Q4 := Aside0.mk (Kd.C_below Q3.out hb4)
  have U4 := Aside0.mk (Kd.C_below U3.out hb4)
  have V4 := Aside0.mk hP
  have VD := Aside0.mk hp
  clear hb4 hP hp
  go_wp2_with fail
  refine (live_c w4).mono ?_
  rintro e w5 ⟨rfl, hb5⟩
  have K5 := Aside0.mk (K4.out.trans (hb5.mono K4.out.size))
  have P5 := Aside0.mk (Kd.C_below P4.out hb5)
  have Q5 := Aside0.mk (Kd.C_below Q4.out hb5)
  have U5 := Aside0.mk (Kd.C_below U4.out hb5)
  have V5 := Aside0.mk (Kd.C_below V4.out hb5)
  clear hb5
  go_wp2_with fail
  refine (equal_c P5.out PD.out Q5.out QD.out (equal_self r)).mono ?_
  rintro e w6 ⟨rfl, hb6⟩
  have K6 := Aside0.mk (K5.out.trans (hb6.mono K5.out.size))
  have U6 := Aside0.mk (Kd.C_below U5.out hb6)
  have V6 := Aside0.mk (Kd.C_below V5.out hb6)
  clear hb6
  go_wp2_with fail
  refine (equal_c U6.out UD.out V6.out VD.out (equal_self s)).mono ?_
  rintro e w7 ⟨rfl, hb7⟩
  have K7 := Aside0.mk (K6.out.trans (hb7.mono K6.out.size))
  clear hb7
  go_wp2_with fail
  go_ret
  exact ⟨by simp, K7.out⟩
end Go.Proofs.Ytckdnkiacnonkaa.Pure
