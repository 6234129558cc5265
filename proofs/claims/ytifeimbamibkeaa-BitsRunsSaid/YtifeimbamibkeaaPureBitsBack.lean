/- What was put is there, and all other bits are as they were; for all rows, places and bits. -/
import Derived.Test.YtifeimbamibkeaaClean
namespace Go.Proofs.Ytifeimbamibkeaa.Pure
open Go.RowKit Go.Proofs.Ytifeimbamibkeaa.PAll Go.Proofs.YtifeimbamibkeaaW.PrintWords Go.Proofs.YtifeimbamibkeaaW.PrintLast Go.Proofs.YtifeimbamibkeaaW.PrintMore
attribute [local go_sem] max2_int min2_int max_two min_two
set_option linter.unusedVariables false
set_option linter.unusedSimpArgs false

theorem begun_c (w : World) : Calls Try.prog 10 #[] w fun e w' => e = .returned (.bool true) ∧ Below w.heap.size w w' :=
  atticlaw02_begun.calls 200 true w (by decide +kernel)
set_option maxRecDepth 100000 in
set_option maxHeartbeats 2000000 in
theorem bitsBack (A : Option Addr) (c : Nat) (l : List Int) (i o : Int) (b : Bool) (w : World) (hb : Bytes l) (hl : l.length < 140737488355328) (hi : -9223372036854775808 ≤ i ∧ i ≤ 9223372036854775807) (ho : -9223372036854775808 ≤ o ∧ o ≤ 9223372036854775807)
    (hC : Kd.C (Kd.int .u8) w A l.length l) (hc : l.length ≤ c) :
    Calls Try.prog 6 #[.slice A l.length c, .int .i64 i, .int .i64 o, .bool b] w fun e w' => e = .returned (.bool true) ∧ Below w.heap.size w w' := by
  have HB := Aside0.mk hb
  have HL := Aside0.mk hl
  have HI := Aside0.mk hi
  have HO := Aside0.mk ho
  have HC := Aside0.mk hC
  have HD := Aside0.mk hc
  clear hb hl hi ho hC hc
  go_enter Try.func6, Try.ntmps6
  go_wp2_with fail
  refine (begun_c w).mono ?_
  rintro e w1 ⟨rfl, hb1⟩
  have K1 := Aside0.mk hb1
  have C1 := Aside0.mk (Kd.C_below HC.out hb1)
  clear hb1
  go_wp2_with fail
  refine (few1 C1.out HD.out (0, 0)).mono ?_
  rintro e w2 ⟨rfl, hb2⟩
  have K2 := Aside0.mk (K1.out.trans (hb2.mono K1.out.size))
  have C2 := Aside0.mk (Kd.C_below C1.out hb2)
  clear hb2
  have h8 : IntKind.i64.wrap (8 * (l.length : Int)) = 8 * (l.length : Int) := bits_Count.mul8 l.length HL.out
  by_cases hf : l.length ≤ 3000
  · rw [decide_eq_true hf]
    have hfo := Aside0.mk hf
    clear hf
    by_cases h0 : i < 0
    · have d0 : decide (i < 0) = true := decide_eq_true h0
      clear h0
      go_wp2_with fail
      refine (begun_c w2).mono ?_
      rintro e w3 ⟨rfl, hb3⟩
      have K3 := Aside0.mk (K2.out.trans (hb3.mono K2.out.size))
      clear hb3
      go_wp2
      go_ret
      exact ⟨rfl, K3.out⟩
    · have d0 : decide (i < 0) = false := decide_eq_false h0
      by_cases h1 : i ≥ 8 * (l.length : Int)
      · have d1 : decide (i ≥ 8 * (l.length : Int)) = true := decide_eq_true h1
        clear h0 h1
        go_wp2_with fail
        refine (begun_c w2).mono ?_
        rintro e w3 ⟨rfl, hb3⟩
        have K3 := Aside0.mk (K2.out.trans (hb3.mono K2.out.size))
        clear hb3
        go_wp2
        go_ret
        exact ⟨rfl, K3.out⟩
      · have d1 : decide (i ≥ 8 * (l.length : Int)) = false := decide_eq_false h1
        obtain ⟨n, rfl⟩ := Int.eq_ofNat_of_zero_le (show 0 ≤ i by omega)
        have HN := Aside0.mk (show n < 8 * l.length by omega)
        clear h0 h1
        go_wp2_with fail
        obtain ⟨r, hr⟩ : ∃ r, r = putA l (n : Int) b := ⟨_, rfl⟩
        have hrl : r.length = l.length := by rw [hr]; unfold putA; rw [if_pos (by omega), putN_length]
        have hrb : Bytes r := by rw [hr]; unfold putA; rw [if_pos (by omega)]; exact putN_bytes HB.out _ _
        have hg1 : (decide (0 ≤ (n : Int)) && bitN r (n : Int).toNat) = b := by
          rw [decide_eq_true (by omega), Bool.true_and, hr, Int.toNat_natCast]
          unfold putA
          have := HN.out
          rw [if_pos (by omega), Int.toNat_natCast, putN_bit, if_pos ⟨rfl, by omega⟩]
        have hg2 : o ≠ (n : Int) → (decide (0 ≤ o) && bitN r o.toNat) = (decide (0 ≤ o) && bitN l o.toNat) := by
          intro hne
          by_cases h : 0 ≤ o
          · rw [hr]
            unfold putA
            rw [if_pos (by omega), Int.toNat_natCast, putN_bit, if_neg (by omega)]
          · rw [decide_eq_false h]
            rfl
        have P := Aside0.mk (put_c C2.out HD.out HB.out HL.out (n : Int) HI.out b)
        rw [← hr] at P
        have HR := Aside0.mk hr
        have RL := Aside0.mk hrl
        have RB := Aside0.mk hrb
        have G1 := Aside0.mk hg1
        have G2 := Aside0.mk hg2
        have e1 : ((r.length : Int) == (l.length : Int)) = true := by rw [hrl]; simp
        have e2 : (r.length == l.length) = true := by rw [hrl]; simp
        clear hr hrl hrb hg1 hg2
        refine P.out.mono ?_
        rintro e w3 ⟨A3, c3, rfl, hl3, hC3, hb3⟩
        have K3 := Aside0.mk (K2.out.trans (hb3.mono K2.out.size))
        have C3 := Aside0.mk (Kd.C_below C2.out hb3)
        have R3 := Aside0.mk hC3
        have RD := Aside0.mk hl3
        clear hb3 hC3 hl3
        go_wp2_with fail
        have Q1 := get_c R3.out RD.out RB.out (by rw [RL.out]; exact HL.out) (n : Int) HI.out
        rw [G1.out] at Q1
        refine Q1.mono ?_
        rintro e w4 ⟨rfl, hb4⟩
        have K4 := Aside0.mk (K3.out.trans (hb4.mono K3.out.size))
        have C4 := Aside0.mk (Kd.C_below C3.out hb4)
        have R4 := Aside0.mk (Kd.C_below R3.out hb4)
        clear hb4 Q1
        by_cases ho : o = (n : Int)
        · subst ho
          go_wp2_with fail
          go_ret
          exact ⟨by simp, K4.out⟩
        · have f1 : (o == (n : Int)) = false := by rw [beq_eq_false_iff_ne]; exact ho
          have HG := Aside0.mk (G2.out ho)
          clear ho
          go_wp2_with fail
          have Q2 := get_c R4.out RD.out RB.out (by rw [RL.out]; exact HL.out) o HO.out
          rw [HG.out] at Q2
          refine Q2.mono ?_
          rintro e w5 ⟨rfl, hb5⟩
          have K5 := Aside0.mk (K4.out.trans (hb5.mono K4.out.size))
          have C5 := Aside0.mk (Kd.C_below C4.out hb5)
          clear hb5 Q2
          go_wp2_with fail
          refine (get_c C5.out HD.out HB.out HL.out o HO.out).mono ?_
          rintro e w6 ⟨rfl, hb6⟩
          have K6 := Aside0.mk (K5.out.trans (hb6.mono K5.out.size))
          clear hb6
          go_wp2_with fail
          go_ret
          exact ⟨by simp, K6.out⟩
  · rw [decide_eq_false hf]
    clear hf
    go_wp2_with fail
    refine (begun_c w2).mono ?_
    rintro e w3 ⟨rfl, hb3⟩
    have K3 := Aside0.mk (K2.out.trans (hb3.mono K2.out.size))
    clear hb3
    go_wp2
    go_ret
    exact ⟨rfl, K3.out⟩
theorem wf64 {a : Int} (h : (Lit.int .i64 a).wf = true) : -9223372036854775808 ≤ a ∧ a ≤ 9223372036854775807 := by
  simp [Lit.wf, IntKind.min, IntKind.max, IntKind.signed, IntKind.bits] at h
  omega
theorem BitsBack (w : World) (A : Option Addr) (c : Nat) (l : List Int) (hw : ∀ x ∈ l, (Lit.int .u8 x).wf = true) (hl : l.length * 1 ≤ 140737488351232) (hC : Kd.C (Kd.int .u8) w A l.length l) (hc : l.length ≤ c) (i : Int) (hi : (Lit.int .i64 i).wf = true) (o : Int) (ho : (Lit.int .i64 o).wf = true) (b : Bool) :
    Calls Try.prog 6 #[.slice A l.length c, .int .i64 i, .int .i64 o, .bool b] w fun e w' => e = .returned (.bool true) ∧ Below w.heap.size w w' :=
  bitsBack A c l i o b w (bytes_wf hw) (by omega) (wf64 hi) (wf64 ho) hC hc
end Go.Proofs.Ytifeimbamibkeaa.Pure
