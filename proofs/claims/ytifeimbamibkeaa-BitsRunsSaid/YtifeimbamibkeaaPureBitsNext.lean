/- Next and Runs answer as the document does; for all rows and numbers. -/
import Derived.Test.YtifeimbamibkeaaRuns
import Derived.Test.YtifeimbamibkeaaPureBitsBack
import Derived.Deep.RegionHeld3
namespace Go.Proofs.Ytifeimbamibkeaa.Pure
open Go.RowKit Go.Proofs.Ytifeimbamibkeaa.PAll Go.Proofs.YtifeimbamibkeaaW.PrintWords Go.Proofs.YtifeimbamibkeaaW.PrintLast Go.Proofs.YtifeimbamibkeaaW.PrintMore
attribute [local go_sem] max2_int min2_int max_two min_two
set_option linter.unusedVariables false
set_option linter.unusedSimpArgs false

theorem told_all (l : List Int) (n : Int) (hb : Bytes l) (hl : l.length ≤ 1000000) (hn : n ≤ 9223372036854775807) : ∃ kk q a0 ys, bits_Next.f kk l (mn n (8 * (l.length : Int))) 0 true = some a0 ∧ bits_Count.go kk l (mn n (8 * (l.length : Int))) q a0 = some ys ∧ ys.map mkS = runS l (upto l n) ∧ ys.length ≤ 8000000 := by
  by_cases h : 0 ≤ n
  · have hm : mn n (8 * (l.length : Int)) = ((upto l n : Nat) : Int) := by unfold mn upto; split <;> omega
    have hu : upto l n ≤ 8 * l.length := by unfold upto; omega
    obtain ⟨a0, h1, h2⟩ := runs_w (16 * l.length + 2) l (upto l n) (upto l n + 1) hb (by omega) hu (Nat.le_refl _) (Nat.lt_succ_self _)
    rw [hm]
    exact ⟨_, _, _, _, h1, h2, rfl, by rw [List.length_map]; have := runR_length l (upto l n); omega⟩
  · have hm : mn n (8 * (l.length : Int)) = n := by unfold mn; rw [if_neg (by omega)]
    have hu : upto l n = 0 := by unfold upto; omega
    have hx : ∀ d, nxI l n true d 0 = n := by
      intro d
      cases d with
      | zero => rw [nxI, if_neg (by omega)]
      | succ d => rw [nxI, if_neg (by omega)]
    rw [hm, hu]
    refine ⟨16 * l.length + 2, 1, n, [], by rw [next_f _ l n 0 true hb (by omega) hn (Nat.le_refl _)]; exact congrArg some (hx _), by rw [bits_Count.go, if_neg (by omega)], rfl, by simp⟩
theorem rruns_c {A : Option Addr} {c : Nat} {l : List Int} {w : World} (hC : Kd.C (Kd.int .u8) w A l.length l) (hc : l.length ≤ c) (hb : Bytes l) (hl : l.length ≤ 1000000) (n : Int) : Calls Try.prog 26 #[.slice A l.length c, .int .i64 n] w (Gives42 w (runS l (upto l n))) := by
  refine (atticref02_Runs.calls _ A c l n _ w hC hc (rruns_f l n hb hl)).mono ?_
  rintro e w' ⟨v, rfl, ho, hb⟩
  obtain ⟨A, c, rfl, hc, hC⟩ := Kd.R_reads ho
  exact ⟨A, c, rfl, hc, hC, hb⟩
theorem told_runs {l : List Int} {n : Int} (hb : Bytes l) (hl : l.length ≤ 1000000) (hn : n ≤ 9223372036854775807) {w0 w w' : World} {e : Ending} (h : bits_Count.RunsPost w l (mn n (8 * (l.length : Int))) e w') : ∃ f, e = .returned f ∧ Below w.heap.size w w' ∧ ∀ most : Int, Calls Try.prog 30 #[f, .int .i64 most] w' (Gives42 w' ((runS l (upto l n)).take most.toNat)) := by
  obtain ⟨gr, gm, A, c, rfl, h1, h2, br, bm, hlc, hCC, hbb⟩ := h
  obtain ⟨kk, q, a0, ys, h3, h4, h5, h6⟩ := told_all l n hb hl hn
  refine ⟨_, rfl, hbb, fun most => ?_⟩
  rw [← h5]
  exact told_c w' l kk _ q a0 ys h3 h4 (by omega) gr gm A c br bm hlc (hCC _ (fun k hk => .inr hk)) most
theorem eq42_c {A A2 : Option Addr} {c c2 : Nat} {r r2 : List S42} {w : World} (h : Kd.C k42 w A r.length r) (hc : r.length ≤ c) (h2 : Kd.C k42 w A2 r2.length r2) (hc2 : r2.length ≤ c2) (he : r = r2) (hn : r.length ≤ 8796093022208) : Calls Try.prog 29 #[.slice A r.length c, .slice A2 r2.length c2] w fun e w' => e = .returned (.bool true) ∧ Below w.heap.size w w' := by
  subst he
  refine (atticref02_Run.calls _ A c r A2 c2 r true w h hc h2 hc2 (run_self r hn)).mono ?_
  rintro e w' ⟨rfl, hd⟩
  exact ⟨rfl, drawn_below hd⟩
theorem take42 {w : World} {A : Option Addr} {r : List S42} {j : Nat} (hj : j ≤ r.length) (h : Kd.C k42 w A r.length r) : Kd.C k42 w A j (r.take j) := by
  have h1 := Kd.C_take h hj
  have h2 : (r.take j).length = j := by rw [List.length_take]; omega
  rw [h2] at h1
  exact h1
theorem eq42_d {A A2 : Option Addr} {c c2 n n2 : Nat} {r r2 : List S42} {w : World} (h : Kd.C k42 w A n r) (hc : n ≤ c) (h2 : Kd.C k42 w A2 n2 r2) (hc2 : n2 ≤ c2) (he : r = r2) (hn : r.length ≤ 8796093022208) : Calls Try.prog 29 #[.slice A n c, .slice A2 n2 c2] w fun e w' => e = .returned (.bool true) ∧ Below w.heap.size w w' := by
  obtain rfl := h.1
  obtain rfl := h2.1
  exact eq42_c h hc h2 hc2 he hn
set_option maxRecDepth 100000 in
set_option maxHeartbeats 4000000 in
theorem BitsNext (w : World) (A : Option Addr) (c : Nat) (l : List Int) (hw : ∀ x ∈ l, (Lit.int .u8 x).wf = true) (hl : l.length * 1 ≤ 140737488351232) (hC : Kd.C (Kd.int .u8) w A l.length l) (hc : l.length ≤ c) (n : Int) (hn : (Lit.int .i64 n).wf = true) (f : Int) (hf : (Lit.int .i64 f).wf = true) (b : Bool) (most : Int) (hm : (Lit.int .u8 most).wf = true) :
    Calls Try.prog 5 #[.slice A l.length c, .int .i64 n, .int .i64 f, .bool b, .int .u8 most] w fun e w' => e = .returned (.bool true) ∧ Below w.heap.size w w' := by
  have HB := Aside0.mk (bytes_wf hw)
  have HL := Aside0.mk (show l.length < 140737488355328 by omega)
  have HN := Aside0.mk (wf64 hn)
  have HM := Aside0.mk (show 0 ≤ most ∧ most < 256 by simp [Lit.wf, IntKind.min, IntKind.max, IntKind.signed, IntKind.bits] at hm; omega)
  have HC := Aside0.mk hC
  have HD := Aside0.mk hc
  clear hw hl hC hc hn hf hm
  go_enter Try.func5, Try.ntmps5
  go_wp2_with fail
  refine (begun_c w).mono ?_
  rintro e w1 ⟨rfl, hb1⟩
  have K1 := Aside0.mk hb1
  have C1 := Aside0.mk (Kd.C_below HC.out hb1)
  clear hb1
  go_wp2_with fail
  refine (few1 C1.out HD.out (0, 0)).mono ?_
  rintro e w2 ⟨rfl, hb2⟩
  have K2 := Aside0.mk (K1.out.trans (hb2.mono K1.out.size))
  have C2 := Aside0.mk (Kd.C_below C1.out hb2)
  clear hb2
  rcases Bool.eq_false_or_eq_true (decide (l.length ≤ 3000)) with hf | hf
  case inr =>
    rw [hf]
    clear hf
    go_wp2_with fail
    refine (begun_c w2).mono ?_
    rintro e w3 ⟨rfl, hb3⟩
    have K3 := Aside0.mk (K2.out.trans (hb3.mono K2.out.size))
    clear hb3
    go_wp2
    go_ret
    exact ⟨rfl, K3.out⟩
  rw [hf]
  have HF := Aside0.mk (of_decide_eq_true hf)
  clear hf
  have HX := Aside0.mk (show l.length ≤ 1000000 by have := HF.out; omega)
  obtain ⟨r, hr⟩ : ∃ r, r = runS l (upto l n) := ⟨_, rfl⟩
  have hrl : r.length ≤ 24000 := by
    have h1 := runS_le l (upto l n)
    have h2 := HF.out
    have h3 : upto l n ≤ 8 * l.length := by unfold upto; omega
    rw [hr]
    omega
  have HR := Aside0.mk hr
  have RL := Aside0.mk hrl
  clear hr hrl
  have P3 := rruns_c C2.out HD.out HB.out HX.out n
  rw [← HR.out] at P3
  have P3' := Aside0.mk P3
  clear P3
  go_wp2_with fail
  refine P3'.out.mono ?_
  rintro e w3 ⟨X, x, rfl, hx, hX, hb3⟩
  have K3 := Aside0.mk (K2.out.trans (hb3.mono K2.out.size))
  have C3 := Aside0.mk (Kd.C_below C2.out hb3)
  have X3 := Aside0.mk hX
  have XD := Aside0.mk hx
  clear hx hX hb3 P3'
  obtain ⟨j, hj⟩ : ∃ j : Nat, j = min r.length most.toNat := ⟨_, rfl⟩
  have hjl : j ≤ r.length := by omega
  obtain ⟨z, hz⟩ : ∃ z, z = r.take most.toNat := ⟨_, rfl⟩
  have HZ := Aside0.mk hz
  have HZJ := Aside0.mk (show z = r.take j by rw [hz, hj, List.take_eq_take_iff]; omega)
  have ZL := Aside0.mk (show z.length ≤ 8796093022208 by rw [hz, List.length_take]; have := RL.out; omega)
  have RN := Aside0.mk (show r.length ≤ 8796093022208 by have := RL.out; omega)
  clear hz
  have HZ1 := Aside0.mk (show r.take (1048576 : Int).toNat = r by rw [List.take_of_length_le]; have := RL.out; omega)
  have hxd := XD.out
  have hmm : (min (r.length : Int) most = (j : Int)) ∧ (if (r.length : Int) ≤ most then (r.length : Int) else most) = (j : Int) ∧ (if most < (r.length : Int) then most else (r.length : Int)) = (j : Int) := by
    have := HM.out
    refine ⟨by omega, by split <;> omega, by split <;> omega⟩
  obtain ⟨m1, m2, m3⟩ := hmm
  have hjx : decide ((j : Int) ≤ (x : Int)) = true := decide_eq_true (by omega)
  have hjx2 : (j : Int) ≤ (x : Int) := by omega
  have hj0 : decide ((0 : Int) ≤ (j : Int)) = true := decide_eq_true (by omega)
  have hcv : IntKind.i64.wrap most = most := by rw [i64_w]; unfold wrap64; have := HM.out; omega
  have TK := Aside0.mk (fun w h => take42 (w := w) (A := X) (r := r) hjl h)
  have JX := Aside0.mk (show j ≤ x by omega)
  clear hj
  go_wp2_with fail
  have K3 := Aside0.mk (below_drew K3.out)
  have C3 := Aside0.mk (Kd.C_drew C3.out)
  have X3 := Aside0.mk (Kd.C_drew X3.out)
  go_region_held3 (fun _ => True) (trivial)
    (first
      | (go_at_call 27; refine (bits_Next.calls (16 * l.length + 2) A c l n f b _ _ C3.out HD.out (next_f _ l n f b HB.out HL.out HN.out.2 (Nat.le_refl _))).mono ?_; rintro e w4 ⟨rfl, hb4⟩; have K4 := Aside0.mk (K3.out.trans (hb4.mono K3.out.size)); have C4 := Aside0.mk (Kd.C_below C3.out hb4); have X4 := Aside0.mk (Kd.C_below X3.out hb4); clear hb4)
      | (go_at_call 28; refine (atticref02_Next.calls (16 * l.length + 2) A c l n f b _ _ C4.out HD.out (rnext_f _ l n f b HB.out HL.out HN.out.2 (Nat.le_refl _))).mono ?_; rintro e w5 ⟨rfl, hb5⟩; have K5 := Aside0.mk (K4.out.trans (hb5.mono K4.out.size)); have C5 := Aside0.mk (Kd.C_below C4.out hb5); have X5 := Aside0.mk (Kd.C_below X4.out hb5); clear hb5)
      | (go_at_call 31; refine (bits_Count.runs A c l n _ C5.out HD.out HL.out).mono ?_; rintro e w6 hp6; obtain ⟨f6, rfl, hb6, ht6⟩ := told_runs (w0 := w) HB.out HX.out HN.out.2 hp6; rw [← HR.out] at ht6; have ht6' := ht6 1048576; rw [HZ1.out] at ht6'; have T6 := Aside0.mk ht6'; have K6 := Aside0.mk (K5.out.trans (hb6.mono K5.out.size)); have C6 := Aside0.mk (Kd.C_below C5.out hb6); have X6 := Aside0.mk (Kd.C_below X5.out hb6); clear hb6 hp6 ht6 ht6' C5)
      | (go_at_call 30; refine (T6.out).mono ?_; rintro e w7 ⟨Y, y, rfl, hy, hY, hb7⟩; have K7 := Aside0.mk (K6.out.trans (hb7.mono K6.out.size)); have C7 := Aside0.mk (Kd.C_below C6.out hb7); have X7 := Aside0.mk (Kd.C_below X6.out hb7); have Y7 := Aside0.mk hY; have YD := Aside0.mk hy; clear hb7 hY hy T6)
      | (go_at_call 29; refine (eq42_d Y7.out YD.out X7.out XD.out rfl RN.out).mono ?_; rintro e w8 ⟨rfl, hb8⟩; have K8 := Aside0.mk (K7.out.trans (hb8.mono K7.out.size)); have C8 := Aside0.mk (Kd.C_below C7.out hb8); have X8 := Aside0.mk (Kd.C_below X7.out hb8); clear hb8 Y7)
      | (go_at_call 31; refine (bits_Count.runs A c l n _ C8.out HD.out HL.out).mono ?_; rintro e w9 hp9; obtain ⟨f9, rfl, hb9, ht9⟩ := told_runs (w0 := w) HB.out HX.out HN.out.2 hp9; rw [← HR.out] at ht9; have ht9' := ht9 most; rw [← HZ.out] at ht9'; have T9 := Aside0.mk ht9'; have K9 := Aside0.mk (K8.out.trans (hb9.mono K8.out.size)); have X9 := Aside0.mk (Kd.C_below X8.out hb9); clear hb9 hp9 ht9 ht9')
      | (go_at_call 30; refine (T9.out).mono ?_; rintro e wa ⟨Z, z, rfl, hy, hY, hb7⟩; have Ka := Aside0.mk (K9.out.trans (hb7.mono K9.out.size)); have Xa := Aside0.mk (Kd.C_below X9.out hb7); have Za := Aside0.mk hY; have ZD := Aside0.mk hy; clear hb7 hY hy)
      | (go_at_call 29; refine (eq42_d Za.out ZD.out (TK.out _ Xa.out) JX.out HZJ.out ZL.out).mono ?_; rintro e wb ⟨rfl, hb8⟩; have Kb := Aside0.mk (Ka.out.trans (hb8.mono Ka.out.size)); clear hb8))
  all_goals (go_wp2; go_ret; exact ⟨(by simp), (by first | assumption | exact Kb.out | exact Ka.out | exact K8.out | exact K9.out)⟩)
end Go.Proofs.Ytifeimbamibkeaa.Pure
