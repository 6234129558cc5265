/- A row is made of its runs, between two of which there is a bit that is 0; for all rows and numbers. -/
import Derived.Test.YtifeimbamibkeaaRunsBack
import Derived.Test.YtifeimbamibkeaaPureBitsNext
import Derived.Deep.LoopGhost
namespace Go.Proofs.Ytifeimbamibkeaa.Pure
open Go.RowKit Go.Proofs.Ytifeimbamibkeaa.PAll Go.Proofs.YtifeimbamibkeaaW.PrintWords Go.Proofs.YtifeimbamibkeaaW.PrintLast Go.Proofs.YtifeimbamibkeaaW.PrintMore
attribute [local go_sem] max2_int min2_int max_two min_two
set_option linter.unusedVariables false
set_option linter.unusedSimpArgs false

set_option maxRecDepth 100000 in
set_option maxHeartbeats 4000000 in
theorem BitsRuns (w : World) (A : Option Addr) (c : Nat) (l : List Int) (hw : ∀ x ∈ l, (Lit.int .u8 x).wf = true) (hl : l.length * 1 ≤ 140737488351232) (hC : Kd.C (Kd.int .u8) w A l.length l) (hc : l.length ≤ c) (n : Int) (hn : (Lit.int .i64 n).wf = true) :
    Calls Try.prog 7 #[.slice A l.length c, .int .i64 n] w fun e w' => e = .returned (.bool true) ∧ Below w.heap.size w w' := by
  have HB := Aside0.mk (bytes_wf hw)
  have HL := Aside0.mk (show l.length < 140737488355328 by omega)
  have HN := Aside0.mk (wf64 hn)
  have HC := Aside0.mk hC
  have HD := Aside0.mk hc
  clear hw hl hC hc hn
  go_enter Try.func7, Try.ntmps7
  go_wp2_with fail
  refine (begun_c w).mono ?_
  rintro e w1 ⟨rfl, hb1⟩
  have K1 := Aside0.mk hb1
  have C1 := Aside0.mk (Kd.C_below HC.out hb1)
  clear hb1
  go_wp2_with fail
  refine (few1 C1.out HD.out (0, 0)).mono ?_
  rintro e w2 ⟨rfl, hb2⟩
  have K2 := Aside0.mk (K1.out.trans (hb2.mono K1.out.size))
  have C2 := Aside0.mk (Kd.C_below C1.out hb2)
  clear hb2
  rcases Bool.eq_false_or_eq_true (decide (l.length ≤ 3000)) with hf | hf
  case inr =>
    rw [hf]
    clear hf
    go_wp2_with fail
    refine (begun_c w2).mono ?_
    rintro e w3 ⟨rfl, hb3⟩
    have K3 := Aside0.mk (K2.out.trans (hb3.mono K2.out.size))
    clear hb3
    go_wp2
    go_ret
    exact ⟨rfl, K3.out⟩
  rw [hf]
  have HF := Aside0.mk (of_decide_eq_true hf)
  clear hf
  have HX := Aside0.mk (show l.length ≤ 1000000 by have := HF.out; omega)
  by_cases h2 : n > 2000
  · have d2 : decide (n > 2000) = true := decide_eq_true h2
    clear h2
    go_wp2_with fail
    refine (begun_c w2).mono ?_
    rintro e w3 ⟨rfl, hb3⟩
    have K3 := Aside0.mk (K2.out.trans (hb3.mono K2.out.size))
    clear hb3
    go_wp2
    go_ret
    exact ⟨rfl, K3.out⟩
  have d2 : decide (n > 2000) = false := decide_eq_false h2
  have H2 := Aside0.mk h2
  clear h2
  obtain ⟨q, hq⟩ : ∃ q, checkA l n = q := ⟨_, rfl⟩
  have Q3 := check_c C2.out HD.out HB.out HL.out n
  rw [hq] at Q3
  have HQ := Aside0.mk hq
  have QQ := Aside0.mk Q3
  clear hq Q3
  go_wp2_with fail
  refine QQ.out.mono ?_
  rintro e w3 ⟨rfl, hb3⟩
  have K3 := Aside0.mk (K2.out.trans (hb3.mono K2.out.size))
  have C3 := Aside0.mk (Kd.C_below C2.out hb3)
  clear hb3 QQ
  by_cases hq0 : q = 0
  case neg =>
    have dq : (!(q == 0)) = true := by simp [hq0]
    have dq2 : (q != 0) = true := by simp [hq0]
    have dq3 : (q == 0) = false := by simp [hq0]
    clear hq0
    go_wp2_with fail
    refine (begun_c w3).mono ?_
    rintro e w4 ⟨rfl, hb4⟩
    have K4 := Aside0.mk (K3.out.trans (hb4.mono K3.out.size))
    clear hb4
    go_wp2
    go_ret
    exact ⟨rfl, K4.out⟩
  subst hq0
  obtain ⟨g1, g2, g3, g4⟩ := checkA_ok HB.out HL.out HQ.out
  obtain ⟨m, rfl⟩ := Int.eq_ofNat_of_zero_le g1
  rw [Int.toNat_natCast] at g3 g4
  have M2 := Aside0.mk (show m ≤ 2000 by have := H2.out; omega)
  have ML := Aside0.mk (show m ≤ 8 * l.length by omega)
  have HZ := Aside0.mk g4
  have HG := Aside0.mk g3
  have UP := Aside0.mk (show upto l (m : Int) = m by unfold upto; omega)
  obtain ⟨z0, hz0⟩ : ∃ z0 : List Int, z0 = List.replicate l.length 0 := ⟨_, rfl⟩
  have N1 := Aside0.mk (show newA (m : Int) = (z0, 0) by unfold newA; rw [if_pos (by omega), Int.toNat_natCast, ← g3, hz0])
  have HZ0 := Aside0.mk hz0
  clear hz0
  clear g1 g2 g3 g4
  go_wp2_with fail
  refine (new_c N1.out).mono ?_
  rintro e w4 ⟨X, x, rfl, hx, hX, hb4⟩
  have K4 := Aside0.mk (K3.out.trans (hb4.mono K3.out.size))
  have C4 := Aside0.mk (Kd.C_below C3.out hb4)
  have X4 := Aside0.mk hX
  have XD := Aside0.mk hx
  clear hX hx hb4
  go_wp2_with fail
  refine (bits_Count.runs A c l m _ C4.out HD.out HL.out).mono ?_
  rintro e w5 hp5
  obtain ⟨f5, rfl, hb5, ht5⟩ := told_runs (w0 := w) HB.out HX.out HN.out.2 hp5
  rw [UP.out] at ht5
  have K5 := Aside0.mk (K4.out.trans (hb5.mono K4.out.size))
  have C5 := Aside0.mk (Kd.C_below C4.out hb5)
  have X5 := Aside0.mk (Kd.C_below X4.out hb5)
  have ht5' := ht5 1048576
  have hrl : (runS l m).length ≤ 2000 := by
    have h1 := runS_le l m
    have h2 := M2.out
    omega
  rw [List.take_of_length_le (by omega)] at ht5'
  obtain ⟨r, hr⟩ : ∃ r, r = runS l m := ⟨_, rfl⟩
  rw [← hr] at ht5' hrl
  have T5 := Aside0.mk ht5'
  have HR := Aside0.mk hr
  have RL := Aside0.mk hrl
  clear hb5 hp5 ht5 ht5' hr hrl
  go_wp2_with fail
  refine T5.out.mono ?_
  rintro e w6 ⟨Y, y, rfl, hy, hY, hb6⟩
  have K6 := Aside0.mk (K5.out.trans (hb6.mono K5.out.size))
  have C6 := Aside0.mk (Kd.C_below C5.out hb6)
  have X6 := Aside0.mk (Kd.C_below X5.out hb6)
  have Y6 := Aside0.mk hY
  have YD := Aside0.mk hy
  clear hY hy hb6 T5
  have hrx : (r.length : Int) ≤ 9223372036854775807 := by have := RL.out; omega
  go_wp2_with fail
  go_loopg [5, 7, 43] r.length (fun q o la i wr => ∃ (k : Nat) (out : List Int) (last : Int) (A5 : Option Addr) (c5 : Nat), i = .int .i64 k ∧ Aside0 (k + q = r.length) ∧ o = .slice A5 out.length c5 ∧ la = .int .i64 last ∧ Aside0 (RInv l m k out last) ∧ Aside0 (out.length ≤ c5) ∧ Aside0 (Kd.C (Kd.int .u8) wr A5 out.length out) ∧ Aside0 (Kd.C (Kd.int .u8) wr A l.length l) ∧ Aside0 (Kd.C k42 wr Y r.length r) ∧ Aside0 (Below w.heap.size w wr))
  case atStart => exact ⟨0, z0, -1, X, x, rfl, ⟨by omega⟩, rfl, rfl, ⟨HZ0.out ▸ rinv_start l m⟩, XD, X6, C6, Y6, K6⟩
  case round =>
    obtain ⟨k, out, last, A5, c5, rfl, hkq, rfl, rfl, HI, HOD, HO, HCl, HY, HK⟩ := hrel
    have hnl := HL.out
    by_cases hlt : k < r.length
    · have hlt' : (k : Int) < (r.length : Int) := by omega
      have hkr : k < (runR l m).length := by have := HR.out; rw [this, runS_length] at hlt; exact hlt
      obtain ⟨xx, hxx⟩ : ∃ xx, (runR l m)[k]? = some xx := ⟨_, List.getElem?_eq_getElem hkr⟩
      have hat := runS_at l m k hkr
      rw [(List.getElem?_eq_some_iff.1 hxx).2, ← HR.out] at hat
      obtain ⟨a, b⟩ := xx
      have hle := runR_le l m (a, b) (List.mem_of_getElem? hxx)
      have hla : last < (a : Int) := HI.out.last (a, b) (by rw [List.drop_eq_getElem_cons hkr, (List.getElem?_eq_some_iff.1 hxx).2]; simp)
      obtain ⟨ad, e1, hx0, hx1⟩ := at_T42 HY.out (k : Int) (by omega) hlt'
      rw [hat] at hx0 hx1
      have HST := Aside0.mk (rinv_step HI.out ML.out (a, b) hxx)
      have HLE := Aside0.mk hle
      have HM2 := M2.out
      have HLA := Aside0.mk hla
      have SP := Aside0.mk (show spanA (m : Int) (a : Int) ((a : Int) + (b : Int)) = (spanR l.length a b, 0) by
        have h1 := HLE.out
        simp only at h1
        unfold spanA
        rw [if_pos (by omega), Int.toNat_natCast, Int.toNat_natCast, show ((a : Int) + (b : Int)).toNat = a + b by omega, ← HG.out, Nat.add_sub_cancel_left])
      simp only [S1, Int.toNat_natCast] at hx0 hx1 hle
      cases e1
      have d1 : decide ((a : Int) ≤ last) = false := decide_eq_false (by omega)
      have d2' : decide ((b : Int) < 1) = false := decide_eq_false (by omega)
      have d3 : decide ((b : Int) > (m : Int) - (a : Int)) = false := decide_eq_false (by omega)
      have hm2 : (a : Int) + (b : Int) ≤ 2000 := by omega
      have HKQ := Aside0.mk hkq
      clear hla hat hxx hle hkr hlt hnl
      have OL := Aside0.mk HI.out.len
      obtain ⟨s, hs⟩ : ∃ s, s = spanR l.length a b := ⟨_, rfl⟩
      obtain ⟨o2, ho2⟩ : ∃ o2, o2 = List.zipWith (fun x y => Go.bits .or .u8 x y) out s := ⟨_, rfl⟩
      have SE := Aside0.mk (show setA (fun x y => Go.bits .or .u8 x y) out s = (o2, 0) by unfold setA; rw [if_pos (by rw [HI.out.len, hs, spanR_length]), ho2])
      have HST2 := HST.out
      have SP2 := SP.out
      simp only at HST2
      rw [← hs] at SP2 HST2
      rw [← ho2] at HST2
      have HSP := Aside0.mk SP2
      have HIN := Aside0.mk HST2
      have OB := Aside0.mk HI.out.by_
      have OLL := Aside0.mk (show out.length < 140737488355328 by rw [HI.out.len]; exact HL.out)
      clear SP SP2 HST HST2 hs ho2
      go_wp2_with fail
      refine (span_c HSP.out).mono ?_
      rintro e w7 ⟨Z, z, rfl, hz, hZ, hb7⟩
      have hbb : Below w.heap.size w w7 := (HK.out.alloc HK.out.size _).trans (hb7.mono (by have := HK.out.size; simp; omega))
      have K7 := Aside0.mk hbb
      have hw7 : Below wr.heap.size wr w7 := ((Below.refl _ wr).alloc (Nat.le_refl _) _).trans (hb7.mono (by simp))
      have c0 : w7.cell? ⟨wr.heap.size, 0, none⟩ = some (.int .i64 a) := (hb7.cell (by simp)).trans (by simp)
      have c1 : w7.cell? ⟨wr.heap.size, 1, none⟩ = some (.int .i64 b) := (hb7.cell (by simp)).trans (by simp)
      have O7 := Aside0.mk (Kd.C_below HO.out hw7)
      have C7 := Aside0.mk (Kd.C_below HCl.out hw7)
      have Y7 := Aside0.mk (Kd.C_below HY.out hw7)
      have Z7 := Aside0.mk hZ
      have ZD := Aside0.mk hz
      have LT7 : wr.heap.size < w7.heap.size := by have := hb7.size; simp at this; omega
      clear hbb hw7 hb7 hZ hz hx0 hx1 HO HCl HY HK
      go_wp2_with fail
      refine (or_c O7.out HOD.out Z7.out ZD.out OLL.out SE.out).mono ?_
      rintro e w8 ⟨V, v, rfl, hv, hV, hb8⟩
      have K8 := Aside0.mk (K7.out.trans (hb8.mono K7.out.size))
      have C8 := Aside0.mk (Kd.C_below C7.out hb8)
      have Y8 := Aside0.mk (Kd.C_below Y7.out hb8)
      have c0' : w8.cell? ⟨wr.heap.size, 0, none⟩ = some (.int .i64 a) := (hb8.cell LT7).trans c0
      have c1' : w8.cell? ⟨wr.heap.size, 1, none⟩ = some (.int .i64 b) := (hb8.cell LT7).trans c1
      have V8 := Aside0.mk hV
      have VD := Aside0.mk hv
      clear hb8 hV hv c0 c1
      go_wp2_with fail
      go_roundg (gk - 1)
      case measure => have := hkq.out; omega
      case rel => exact ⟨k + 1, o2, _, V, v, by go_num, ⟨by have := hkq.out; omega⟩, rfl, rfl, HIN, VD, V8, C8, Y8, K8⟩
    · have hge : decide (k < r.length) = false := decide_eq_false hlt
      have hge2 : r.length ≤ k := by omega
      have hkk : k = (runR l m).length := by rw [← runS_length, ← HR.out]; have := hkq.out; omega
      have HE := Aside0.mk (rinv_end (hkk ▸ HI.out) HB.out HZ.out)
      clear hlt hkk
      obtain rfl := HE.out
      clear HE
      go_wp2_with fail
      refine (equal_c HO.out HOD.out HCl.out HD.out (equal_self out)).mono ?_
      rintro e w7 ⟨rfl, hb7⟩
      have K7 := Aside0.mk (HK.out.trans (hb7.mono HK.out.size))
      clear hb7
      go_wp2_with fail
      go_ret
      exact ⟨by simp, K7.out⟩
end Go.Proofs.Ytifeimbamibkeaa.Pure
