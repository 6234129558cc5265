/- Put answers as the document does, and what is handed in is left as it is, also where the answer is written to; for all rows, places and bits. -/
import Derived.Test.YtifeimbamibkeaaClean2
import Derived.Test.YtifeimbamibkeaaPureBitsBack
namespace Go.Proofs.Ytifeimbamibkeaa.Pure
open Go.RowKit Go.Proofs.Ytifeimbamibkeaa.PAll Go.Proofs.YtifeimbamibkeaaW.PrintWords Go.Proofs.YtifeimbamibkeaaW.PrintLast Go.Proofs.YtifeimbamibkeaaW.PrintMore
attribute [local go_sem] max2_int min2_int max_two min_two
set_option linter.unusedVariables false
set_option linter.unusedSimpArgs false

theorem put_o {A : Option Addr} {c : Nat} {l : List Int} {w : World} (hC : Kd.C (Kd.int .u8) w A l.length l) (hc : l.length ≤ c) (hb : Bytes l) (hl : l.length < 140737488355328) (i : Int) (hi : -9223372036854775808 ≤ i ∧ i ≤ 9223372036854775807) (b : Bool) : Calls Try.prog 20 #[.slice A l.length c, .int .i64 i, .bool b] w fun e w' => ∃ v, e = .returned v ∧ Kd.R (Kd.int .u8) 5 w' w.heap.size (fun _ => True) v (putA l i b) ∧ Below w.heap.size w w' :=
  bits_Put.calls A c l i b _ w hC hc (put_f l i b hb hl hi)
theorem putA_length (l : List Int) (i : Int) (b : Bool) : (putA l i b).length = l.length := by
  unfold putA
  split
  · rw [putN_length]
  · rfl
set_option maxRecDepth 100000 in
set_option maxHeartbeats 4000000 in
theorem BitsPuts (w : World) (A : Option Addr) (c : Nat) (l : List Int) (hw : ∀ x ∈ l, (Lit.int .u8 x).wf = true) (hl : l.length * 1 ≤ 140737488351232) (hC : Kd.C (Kd.int .u8) w A l.length l) (hc : l.length ≤ c) (i : Int) (hi : (Lit.int .i64 i).wf = true) (b : Bool) :
    Calls Try.prog 4 #[.slice A l.length c, .int .i64 i, .bool b] w fun e w' => e = .returned (.bool true) ∧ Below w.heap.size w w' := by
  have HB := Aside0.mk (bytes_wf hw)
  have HL := Aside0.mk (show l.length < 140737488355328 by omega)
  have HI := Aside0.mk (wf64 hi)
  have HC := Aside0.mk hC
  have HD := Aside0.mk hc
  clear hw hl hi hC hc
  go_enter Try.func4, Try.ntmps4
  go_wp2_with fail
  refine (begun_c w).mono ?_
  rintro e w1 ⟨rfl, hb1⟩
  have K1 := Aside0.mk hb1
  have C1 := Aside0.mk (Kd.C_below HC.out hb1)
  clear hb1
  go_wp2_with fail
  refine (few1 C1.out HD.out (0, 0)).mono ?_
  rintro e w2 ⟨rfl, hb2⟩
  have K2 := Aside0.mk (K1.out.trans (hb2.mono K1.out.size))
  have C2 := Aside0.mk (Kd.C_below C1.out hb2)
  clear hb2
  rcases Bool.eq_false_or_eq_true (decide (l.length ≤ 3000)) with hf | hf
  case inr =>
    rw [hf]
    clear hf
    go_wp2_with fail
    refine (begun_c w2).mono ?_
    rintro e w3 ⟨rfl, hb3⟩
    have K3 := Aside0.mk (K2.out.trans (hb3.mono K2.out.size))
    clear hb3
    go_wp2
    go_ret
    exact ⟨rfl, K3.out⟩
  rw [hf]
  clear hf
  go_wp2_with fail
  refine (clone_c C2.out HD.out HL.out).mono ?_
  rintro e w3 ⟨B, cb, rfl, hcb, hB, hb3⟩
  have K3 := Aside0.mk (K2.out.trans (hb3.mono K2.out.size))
  have C3 := Aside0.mk (Kd.C_below C2.out hb3)
  have B3 := Aside0.mk hB
  have BD := Aside0.mk hcb
  clear hb3 hB hcb
  have P := Aside0.mk (put_o C3.out HD.out HB.out HL.out i HI.out b)
  obtain ⟨r, hr⟩ : ∃ r, r = putA l i b := ⟨_, rfl⟩
  have RL := Aside0.mk (show r.length = l.length by rw [hr, putA_length])
  have HR := Aside0.mk hr
  rw [← hr] at P
  clear hr
  go_wp2_with fail
  refine P.out.mono ?_
  rintro e w4 ⟨v, rfl, hR, hb4⟩
  obtain ⟨X, cx, rfl, hcx, hX⟩ := Kd.R_reads hR
  have R4 := Aside0.mk hR
  have J4 := Aside0.mk hb4
  have C4 := Aside0.mk (Kd.C_below C3.out hb4)
  have B4 := Aside0.mk (Kd.C_below B3.out hb4)
  have X4 := Aside0.mk hX
  have XD := Aside0.mk hcx
  clear hR hb4 hX hcx P
  go_wp2_with fail
  have Q5 := rput_c C4.out HD.out HB.out HL.out i HI.out b
  rw [← HR.out] at Q5
  refine Q5.mono ?_
  rintro e w5 ⟨Y, cy, rfl, hcy, hY, hb5⟩
  have R5 := Aside0.mk (Kd.R_below R4.out hb5)
  have J5 := Aside0.mk (J4.out.trans (hb5.mono J4.out.size))
  have C5 := Aside0.mk (Kd.C_below C4.out hb5)
  have B5 := Aside0.mk (Kd.C_below B4.out hb5)
  have X5 := Aside0.mk (Kd.C_below X4.out hb5)
  have Y5 := Aside0.mk hY
  have YD := Aside0.mk hcy
  clear hb5 hY hcy Q5
  go_wp2_with fail
  refine (equal_c X5.out XD.out Y5.out YD.out (equal_self r)).mono ?_
  rintro e w6 ⟨rfl, hb6⟩
  have R6 := Aside0.mk (Kd.R_below R5.out hb6)
  have J6 := Aside0.mk (J5.out.trans (hb6.mono J5.out.size))
  have C6 := Aside0.mk (Kd.C_below C5.out hb6)
  have B6 := Aside0.mk (Kd.C_below B5.out hb6)
  clear hb6
  go_wp2_with fail
  refine (get_c C6.out HD.out HB.out HL.out i HI.out).mono ?_
  rintro e w7 ⟨rfl, hb7⟩
  have R7 := Aside0.mk (Kd.R_below R6.out hb7)
  have J7 := Aside0.mk (J6.out.trans (hb7.mono J6.out.size))
  have C7 := Aside0.mk (Kd.C_below C6.out hb7)
  have B7 := Aside0.mk (Kd.C_below B6.out hb7)
  clear hb7
  go_wp2_with fail
  refine (rget_c C7.out HD.out HB.out HL.out i HI.out).mono ?_
  rintro e w8 ⟨rfl, hb8⟩
  have R8 := Aside0.mk (Kd.R_below R7.out hb8)
  have J8 := Aside0.mk (J7.out.trans (hb8.mono J7.out.size))
  have C8 := Aside0.mk (Kd.C_below C7.out hb8)
  have B8 := Aside0.mk (Kd.C_below B7.out hb8)
  clear hb8
  go_wp2_with fail
  refine (count_c C8.out HD.out HB.out HL.out).mono ?_
  rintro e w9 ⟨rfl, hb9⟩
  have R9 := Aside0.mk (Kd.R_below R8.out hb9)
  have J9 := Aside0.mk (J8.out.trans (hb9.mono J8.out.size))
  have C9 := Aside0.mk (Kd.C_below C8.out hb9)
  have B9 := Aside0.mk (Kd.C_below B8.out hb9)
  clear hb9
  go_wp2_with fail
  refine (rcount_c C9.out HD.out HB.out HL.out).mono ?_
  rintro e w10 ⟨rfl, hb10⟩
  have R10 := Aside0.mk (Kd.R_below R9.out hb10)
  have J10 := Aside0.mk (J9.out.trans (hb10.mono J9.out.size))
  have C10 := Aside0.mk (Kd.C_below C9.out hb10)
  have B10 := Aside0.mk (Kd.C_below B9.out hb10)
  clear hb10
  go_wp2_with fail
  refine (equal_c C10.out HD.out B10.out BD.out (equal_self l)).mono ?_
  rintro e w11 ⟨rfl, hb11⟩
  have R11 := Aside0.mk (Kd.R_below R10.out hb11)
  have J11 := Aside0.mk (J10.out.trans (hb11.mono J10.out.size))
  have C11 := Aside0.mk (Kd.C_below C10.out hb11)
  have B11 := Aside0.mk (Kd.C_below B10.out hb11)
  clear hb11
  go_wp2_with fail
  go_loopw [56] (fun v wr => ∃ (k : Nat) (y : List Int), k ≤ r.length ∧ y.length = r.length ∧ v = .int .i64 k ∧ Aside0 (Kd.R (Kd.int .u8) 5 wr w3.heap.size (fun _ => True) (.slice X r.length cx) y) ∧ Aside0 (Below w3.heap.size w3 wr))
    (fun v _ => r.length - (intOf v).toNat)
  case atStart => exact ⟨0, r, Nat.zero_le _, rfl, rfl, R11, J11⟩
  case round =>
    obtain ⟨k, y, hk, hyl, rfl, HO, HBr⟩ := hrel
    by_cases hlt : k < r.length
    · have hN := HL.out
      have hrl := RL.out
      have hd2 : decide ((k : Int) < (r.length : Int)) = true := decide_eq_true (by omega)
      obtain ⟨go, co, eo, gb, gl, cl, hG⟩ := Kd.R_form HO.out (by omega)
      obtain ⟨rfl, e2, e3⟩ : X = some ⟨go, 0, none⟩ ∧ r.length = y.length ∧ cx = co := by simpa using eo
      obtain ⟨hcx, hcf⟩ := Kd.R_celln 0 HO.out (k : Int) (by omega) (by omega)
      have HP := Aside0.mk (Kd.R_putn HO.out (k : Int) (Go.bits .xor .u8 (rd y k) 255))
      have hw1 : IntKind.i64.wrap ((k : Int) + 1) = (k : Int) + 1 := by rw [i64_w]; unfold wrap64; omega
      rw [Int.toNat_natCast] at hcx hcf HP
      have hk1 : k + 1 ≤ r.length := hlt
      have gb2 := Aside0.mk gb
      have HYL := Aside0.mk hyl
      clear gb gl hG cl HO eo e2 e3 hN hrl hyl
      go_wp2_with fail
      go_roundw
      case rel => exact ⟨k + 1, _, hk1, by rw [List.length_set]; exact HYL.out, by go_num, HP, ⟨HBr.out.setCell (p := ⟨go, k, none⟩) gb2.out _⟩⟩
      case measure => simp [intOf]; omega
    · obtain rfl : k = r.length := by omega
      have hd2 : decide ((r.length : Int) < (r.length : Int)) = false := decide_eq_false (by omega)
      have CL := Aside0.mk (Kd.C_below C3.out HBr.out)
      have BL := Aside0.mk (Kd.C_below B3.out HBr.out)
      have KL := Aside0.mk (K3.out.trans (HBr.out.mono K3.out.size))
      clear HO hyl
      go_wp2_with fail
      refine (equal_c CL.out HD.out BL.out BD.out (equal_self l)).mono ?_
      rintro e w13 ⟨rfl, hb13⟩
      have K13 := Aside0.mk (KL.out.trans (hb13.mono KL.out.size))
      clear hb13
      go_wp2_with fail
      go_ret
      exact ⟨by simp, K13.out⟩
end Go.Proofs.Ytifeimbamibkeaa.Pure
