/- Any pointer of any slot, and the slot with another one, and all pointers, are the document's. -/
import Derived.Test.YtckdnkiacnonkaaRefs2
namespace Go.Proofs.Ytckdnkiacnonkaa.Pure
open Go.RowKit Go.Proofs.Ytckdnkiacnonkaa.PAll Go.Proofs.Ytckdnkiacnonkaa.Mem Go.Proofs.YtckdnkiacnonkaaW.PrintWords Go.Proofs.YtckdnkiacnonkaaW.PrintLast Go.Proofs.YtckdnkiacnonkaaW.PrintMore
attribute [local go_sem] max2_int min2_int max_two min_two
set_option linter.unusedVariables false
set_option linter.unusedSimpArgs false

theorem wf64_ {a : Int} (h : (Lit.int .u64 a).wf = true) : ∃ u : Nat, a = (u : Int) := by
  simp [Lit.wf, IntKind.min, IntKind.max, IntKind.signed, IntKind.bits] at h
  exact ⟨a.toNat, by omega⟩
set_option maxRecDepth 100000 in
set_option maxHeartbeats 4000000 in
theorem ObjectPtrs (w : World) (A : Option Addr) (c : Nat) (l : List Int) (hw : ∀ x ∈ l, (Lit.int .u8 x).wf = true) (hl : l.length * 1 ≤ 140737488351232) (hC : Kd.C (Kd.int .u8) w A l.length l) (hc : l.length ≤ c) (i : Int) (hi : (Lit.int .i64 i).wf = true) (z : Int) (hz : (Lit.int .u64 z).wf = true) :
    Calls Try.prog 5 #[.slice A l.length c, .int .i64 i, .int .u64 z] w fun e w' => e = .returned (.bool true) ∧ Below w.heap.size w w' := by
  obtain ⟨u, rfl⟩ := wf64_ hz
  have HB := Aside0.mk (bytes_wf hw)
  have HL := Aside0.mk (show l.length ≤ 140737488351232 by omega)
  have C0 := Aside0.mk hC
  have HD := Aside0.mk hc
  have K0 := Aside0.mk (Below.refl w.heap.size w)
  obtain ⟨v, n, hr⟩ : ∃ v n, PT l i = (v, n) := ⟨_, _, rfl⟩
  obtain ⟨s, m, hs⟩ : ∃ s m, SP l i u = (s, m) := ⟨_, _, rfl⟩
  obtain ⟨L, hL⟩ : ∃ L, L = pL l := ⟨_, rfl⟩
  obtain ⟨L1, hL1⟩ : ∃ L1, L1 = L.take (1 : Int).toNat := ⟨_, rfl⟩
  have hle : L.length ≤ 126 := by rw [hL, pL_length]; exact np_le l
  have h9 : (pL l).take (999 : Int).toNat = L := by rw [← hL, List.take_of_length_le]; omega
  have T9 := Aside0.mk (fun (w : World) (h : Kd.C (Kd.int .u8) w A l.length l) => ptrs_c h hc HB.out HL.out 999)
  have T1 := Aside0.mk (fun (w : World) (h : Kd.C (Kd.int .u8) w A l.length l) => ptrs_c h hc HB.out HL.out 1)
  have TR := Aside0.mk (fun (w : World) (h : Kd.C (Kd.int .u8) w A l.length l) => rPtrs_c h hc HB.out HL.out)
  rw [h9] at T9
  rw [← hL, ← hL1] at T1
  rw [← hL] at TR
  obtain ⟨j, hj⟩ : ∃ j : Nat, j = min 1 L.length := ⟨_, rfl⟩
  have hl1 : L1.length = j := by rw [hL1, List.length_take, hj]; rfl
  have M1 : (if (L.length : Int) < 1 then (L.length : Int) else 1) = (j : Int) := by split <;> omega
  have M2 : (min (1 : Int) (L.length : Int)) = (j : Int) := by omega
  have M3 : (if (1 : Int) ≤ (L.length : Int) then 1 else (L.length : Int)) = (j : Int) := by split <;> omega
  have L1E := Aside0.mk hl1
  have JJ := Aside0.mk hj
  have HR := Aside0.mk hr
  have HS := Aside0.mk hs
  have LE := Aside0.mk (show L.length ≤ 1000000 by omega)
  clear hw hl hC hc hi hz hr hs hL hL1 hle h9 hl1 hj
  go_enter Try.func5, Try.ntmps5
  go_wp2_with fail
  refine (Ptr_c C0.out HD.out HB.out HL.out HR.out).mono ?_
  rintro e w1 ⟨rfl, hb1⟩
  have K1 := Aside0.mk (K0.out.trans (hb1.mono K0.out.size))
  have C1 := Aside0.mk (Kd.C_below C0.out hb1)
  clear hb1
  go_wp2_with fail
  refine (rPtr_c C1.out HD.out HB.out HL.out HR.out).mono ?_
  rintro e w2 ⟨rfl, hb2⟩
  have K2 := Aside0.mk (K1.out.trans (hb2.mono K1.out.size))
  have C2 := Aside0.mk (Kd.C_below C1.out hb2)
  clear hb2
  go_wp2_with fail
  refine (SetPtr_c C2.out HD.out HB.out HL.out u HS.out).mono ?_
  rintro e w3 ⟨P, p, rfl, hp, hP, hb3⟩
  have K3 := Aside0.mk (K2.out.trans (hb3.mono K2.out.size))
  have C3 := Aside0.mk (Kd.C_below C2.out hb3)
  have P3 := Aside0.mk hP
  have PD := Aside0.mk hp
  clear hb3 hP hp
  go_wp2_with fail
  refine (rSetPtr_c C3.out HD.out HB.out HL.out HS.out).mono ?_
  rintro e w4 ⟨Q, q, rfl, hp, hP, hb4⟩
  have K4 := Aside0.mk (K3.out.trans (hb4.mono K3.out.size))
  have C4 := Aside0.mk (Kd.C_below C3.out hb4)
  have P4 := Aside0.mk (Kd.C_below P3.out hb4)
  have Q4 := Aside0.mk hP
  have QD := Aside0.mk hp
  clear hb4 hP hp
  go_wp2_with fail
  refine (T9.out _ C4.out).mono ?_
  rintro e w5 ⟨X, x, rfl, hp, hP, hb5⟩
  have K5 := Aside0.mk (K4.out.trans (hb5.mono K4.out.size))
  have C5 := Aside0.mk (Kd.C_below C4.out hb5)
  have P5 := Aside0.mk (Kd.C_below P4.out hb5)
  have Q5 := Aside0.mk (Kd.C_below Q4.out hb5)
  have X5 := Aside0.mk hP
  have XD := Aside0.mk hp
  clear hb5 hP hp
  go_wp2_with fail
  refine (T1.out _ C5.out).mono ?_
  rintro e w6 ⟨Y, y, rfl, hp, hP, hb6⟩
  have K6 := Aside0.mk (K5.out.trans (hb6.mono K5.out.size))
  have C6 := Aside0.mk (Kd.C_below C5.out hb6)
  have P6 := Aside0.mk (Kd.C_below P5.out hb6)
  have Q6 := Aside0.mk (Kd.C_below Q5.out hb6)
  have X6 := Aside0.mk (Kd.C_below X5.out hb6)
  have Y6 := Aside0.mk hP
  have YD := Aside0.mk hp
  clear hb6 hP hp
  go_wp2_with fail
  refine (TR.out _ C6.out).mono ?_
  rintro e w7 ⟨Z, z, rfl, hp, hP, hb7⟩
  have K7 := Aside0.mk (K6.out.trans (hb7.mono K6.out.size))
  have P7 := Aside0.mk (Kd.C_below P6.out hb7)
  have Q7 := Aside0.mk (Kd.C_below Q6.out hb7)
  have X7 := Aside0.mk (Kd.C_below X6.out hb7)
  have Z7 := Aside0.mk hP
  have ZD := Aside0.mk hp
  clear hb7 hP hp
  go_wp2_with fail
  refine (live_c _).mono ?_
  rintro e w8 ⟨rfl, hb8⟩
  have K8 := Aside0.mk (K7.out.trans (hb8.mono K7.out.size))
  have P8 := Aside0.mk (Kd.C_below P7.out hb8)
  have Q8 := Aside0.mk (Kd.C_below Q7.out hb8)
  have X8 := Aside0.mk (Kd.C_below X7.out hb8)
  have Z8 := Aside0.mk (Kd.C_below Z7.out hb8)
  clear hb8
  go_wp2_with fail
  refine (equal_c P8.out PD.out Q8.out QD.out (equal_self s)).mono ?_
  rintro e w9 ⟨rfl, hb9⟩
  have K9 := Aside0.mk (K8.out.trans (hb9.mono K8.out.size))
  have X9 := Aside0.mk (Kd.C_below X8.out hb9)
  have Z9 := Aside0.mk (Kd.C_below Z8.out hb9)
  clear hb9
  go_wp2_with fail
  refine (eq64_c X9.out XD.out Z9.out ZD.out LE.out).mono ?_
  rintro e w10 ⟨rfl, hb10⟩
  have K10 := Aside0.mk (K9.out.trans (hb10.mono K9.out.size))
  clear hb10
  go_wp2_with fail
  go_ret
  exact ⟨by simp [L1E.out], K10.out⟩
end Go.Proofs.Ytckdnkiacnonkaa.Pure
