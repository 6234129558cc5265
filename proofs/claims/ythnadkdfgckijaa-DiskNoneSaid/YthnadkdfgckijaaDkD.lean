/- An operation is counted, the power goes, all that is pending reaches the medium: contracts, walked. -/
import Derived.Test.YthnadkdfgckijaaDkC
namespace Go.Proofs.Ythnadkdfgckijaa.Pure
open Go.RowKit Go.Proofs.Ythnadkdfgckijaa Go.Proofs.Ythnadkdfgckijaa.PAll Go.Proofs.Ythnadkdfgckijaa.Mem Go.Proofs.YthnadkdfgckijaaW.PrintWords Go.Proofs.YthnadkdfgckijaaW.PrintLast Go.Proofs.YthnadkdfgckijaaW.PrintMore
set_option linter.unusedVariables false
set_option linter.unusedSimpArgs false
set_option linter.unusedSectionVars false

theorem penOk_nil (n : Nat) : PenOk n [] := fun x h => by cases h
theorem R_none (w : World) (ok : Nat → Prop) : Kd.R kW 101 w 0 ok (.slice none 0 0) [] := Kd.R_nil _ _ _ _ _
theorem F_none (w : World) (U : Nat → Prop) : Kd.F (Kd.int .u8) w U none ([] : List Int).length [] := Kd.F_nil _ _ _
section
variable {w : World} {g : Nat} {U : Nat → Prop} {s : DS} (h : DK w g U s)
include h
theorem dk_len : Calls Try.prog 32 #[.pointer (some ⟨g, 0, none⟩)] w fun ex w' => ex = .returned (.int .i64 (s.B.length : Int)) ∧ Below w.heap.size w w' := by
  obtain ⟨lt, ug, pen, pos, A, Ak, c, ck, vP, FB, FW, FK, h1, h2, h3, h4, h5, h6, h7, h8⟩ := h
  exact len_b h1
theorem dk_can : Calls Try.prog 57 #[.pointer (some ⟨g, 0, none⟩)] w fun ex w' => ex = .returned (.int .i64 (if s.off = true then 5 else 0)) ∧ Below w.heap.size w w' := by
  obtain ⟨lt, ug, pen, pos, A, Ak, c, ck, vP, FB, FW, FK, h1, h2, h3, h4, h5, h6, h7, h8⟩ := h
  exact can_b h1 pos
theorem dk_place (i : Int) : Calls Try.prog 54 #[.pointer (some ⟨g, 0, none⟩), .int .i64 i] w fun ex w' => ex = .returned (.int .i64 (placeS s i)) ∧ Below w.heap.size w w' := by
  obtain ⟨lt, ug, pen, pos, A, Ak, c, ck, vP, FB, FW, FK, h1, h2, h3, h4, h5, h6, h7, h8⟩ := h
  exact place_b h1 pos i _ rfl
theorem dk_on : Calls Try.prog 31 #[.pointer (some ⟨g, 0, none⟩)] w fun ex w' => ex = .returned (.bool (!s.off)) ∧ Below w.heap.size w w' := by
  obtain ⟨lt, ug, pen, pos, A, Ak, c, ck, vP, FB, FW, FK, h1, h2, h3, h4, h5, h6, h7, h8⟩ := h
  exact on_b h1 pos
theorem dk_restart : Calls Try.prog 30 #[.pointer (some ⟨g, 0, none⟩)] w fun ex w' => ex = .returned (.int .i64 (restartS s).1) ∧ DK w' g U (restartS s).2 ∧ Fr U w w' := by
  obtain ⟨lt, ug, pen, pos, A, Ak, c, ck, vP, FB, FW, FK, h1, h2, h3, h4, h5, h6, h7, h8⟩ := h
  refine (restart_b h1 pos).mono ?_
  rintro ex w' ⟨rfl, hG, hf⟩
  have hd : DK w' g U { s with off := false } := ⟨fun k hk => Nat.lt_of_lt_of_le (lt k hk) hf.size, ug, pen, pos, A, Ak, c, ck, vP, FB, FW, FK, hG, h2.fr hf (fun k hk e => (h6 k hk).2 e), Kd.R_step h3 (fun k hk hlt => hf.block k hlt (h7 k hk).2.1), F_fr h4 hf (fun k hk => (h8 k hk).2.1), h5, h6, h7, h8⟩
  unfold restartS
  cases ho : s.off
  · rw [if_neg (by decide), if_neg (by decide)]
    refine ⟨rfl, ?_, hf.mono (fun k e => e ▸ ug)⟩
    have e : ({ s with off := false } : DS) = s := by cases s; cases ho; rfl
    rw [e] at hd
    exact hd
  · rw [if_pos rfl, if_pos rfl]
    exact ⟨rfl, hd, hf.mono (fun k e => e ▸ ug)⟩
/-- The power goes. -/
theorem dk_falls {UX : Nat → Prop} {ps : List Int} {Ax : Option Addr} {cx : Nat} (hX : Kd.F (Kd.int .u8) w UX Ax ps.length ps) (hcx : ps.length ≤ cx) (hUX : ∀ k, UX k → ¬ U k) :
    Calls Try.prog 62 #[.pointer (some ⟨g, 0, none⟩), .slice Ax ps.length cx] w fun ex w' => ex = .returned (.tuple #[]) ∧ DK w' g U (fallsS s ps) ∧ Fr U w w' := by
  obtain ⟨lt, ug, pen, pos, A, Ak, c, ck, vP, FB, FW, FK, h1, h2, h3, h4, h5, h6, h7, h8⟩ := h
  refine (falls_b h1 h2 h3 pen (fun q => (h6 _ q).2 rfl) (fun k hk => (h7 k hk).2.2) (fun k hk => lt k (h6 k hk).1) hX hcx (fun k hk q => hUX k hk (h6 k q).1)).mono ?_
  rintro ex w' ⟨rfl, hR, hG, hf⟩
  have hf2 : Fr U w w' := hf.mono (fun k hk => hk.elim (fun q => (h6 k q).1) (fun e => e ▸ ug))
  refine ⟨rfl, ⟨fun k hk => Nat.lt_of_lt_of_le (lt k hk) hf.size, ug, penOk_nil _, by simp only [fallsS, fallB_len]; exact pos, A, none, c, 0, .slice none 0 0, FB, fun _ => False, fun _ => False, ?_, hR, R_none _ _, F_none _ _, Nat.le_refl _, h6, fun k q => q.elim, fun k q => q.elim⟩, hf2⟩
  show w'.heap[g]? = some (.cells (dkCs A (fallB s.B (s.P.zip ps)).length c (.slice none 0 0) (.bool true) (.int .i64 s.ops) (.int .i64 0) (.slice none 0 0)) 55 (0, 0))
  rw [fallB_len]
  exact hG
end
section
variable {w : World} {g c ck : Nat} {A Ak : Option Addr} {vP : Value} {v2 : Bool} {ops armed : Int} {FB FW FK : Nat → Prop} {B : List (List Int)} {P : List (Int × List Int)} {ps : List Int}
set_option maxRecDepth 100000 in
theorem goes0_b (hg : w.heap[g]? = some (.cells (dkCs A B.length c vP (.bool v2) (.int .i64 ops) (.int .i64 armed) (.slice Ak ps.length ck)) 55 (0, 0))) (h0 : armed = 0) :
    Calls Try.prog 56 #[.pointer (some ⟨g, 0, none⟩)] w fun ex w' => ex = .returned (.bool false) ∧ w'.heap[g]? = some (.cells (dkCs A B.length c vP (.bool v2) (.int .i64 (wrap64 (ops + 1))) (.int .i64 armed) (.slice Ak ps.length ck)) 55 (0, 0)) ∧ Fr (· = g) w w' := by
  subst h0
  have G0 := Aside0.mk hg
  have y3 := blk_frozen hg 3
  obtain ⟨z0, z1, z2, z3, z4, z5⟩ := dk_cells hg
  clear hg
  go_enter Try.func56, Try.ntmps56
  go_wp2_with fail
  go_ret
  refine ⟨rfl, ?_, Fr.set (F := (· = g)) (p := ⟨g, 3, none⟩) (Fr.refl _ _) rfl _⟩
  rw [blk_set G0.out 3 _]
  simp
set_option maxRecDepth 100000 in
theorem goes1_b (hg : w.heap[g]? = some (.cells (dkCs A B.length c vP (.bool v2) (.int .i64 ops) (.int .i64 armed) (.slice Ak ps.length ck)) 55 (0, 0))) (h0 : ¬ armed = 0) (h1 : wrap64 (armed - 1) > 0) :
    Calls Try.prog 56 #[.pointer (some ⟨g, 0, none⟩)] w fun ex w' => ex = .returned (.bool false) ∧ w'.heap[g]? = some (.cells (dkCs A B.length c vP (.bool v2) (.int .i64 (wrap64 (ops + 1))) (.int .i64 (wrap64 (armed - 1))) (.slice Ak ps.length ck)) 55 (0, 0)) ∧ Fr (· = g) w w' := by
  have G0 := Aside0.mk hg
  have e0 : (armed == 0) = false := by simpa using h0
  obtain ⟨a1, ha1⟩ : ∃ x, x = wrap64 (armed - 1) := ⟨_, rfl⟩
  rw [← ha1] at h1 ⊢
  have e1 := ha1.symm
  have e2 : decide (a1 > 0) = true := decide_eq_true h1
  have e3 : decide (0 < a1) = true := decide_eq_true h1
  have y3 := blk_frozen hg 3
  have y4 := blk_frozen hg 4
  obtain ⟨z0, z1, z2, z3, z4, z5⟩ := dk_cells hg
  clear hg h0 h1 ha1
  go_enter Try.func56, Try.ntmps56
  go_wp2_with fail
  go_ret
  refine ⟨rfl, ?_, Fr.set (F := (· = g)) (p := ⟨g, 4, none⟩) (Fr.set (F := (· = g)) (p := ⟨g, 3, none⟩) (Fr.refl _ _) rfl _) rfl _⟩
  rw [blk_set (blk_set G0.out 3 _) 4 _]
  simp
set_option maxRecDepth 100000 in
set_option maxHeartbeats 4000000 in
theorem goes2_b (hg : w.heap[g]? = some (.cells (dkCs A B.length c vP (.bool v2) (.int .i64 ops) (.int .i64 armed) (.slice Ak ps.length ck)) 55 (0, 0))) (h0 : ¬ armed = 0) (h1 : ¬ wrap64 (armed - 1) > 0)
    (hR : RowsAt w A c FB B) (hP : Kd.R kW 101 w 0 FW vP P) (hpen : PenOk B.length P) (hgF : ¬ FB g) (hgW : ¬ FW g) (hgK : ¬ FK g) (hWF : ∀ k, FW k → ¬ FB k) (hFB : ∀ k, FB k → k < w.heap.size)
    (hK : Kd.F (Kd.int .u8) w FK Ak ps.length ps) (hck : ps.length ≤ ck) (hKF : ∀ k, FK k → ¬ FB k) :
    Calls Try.prog 56 #[.pointer (some ⟨g, 0, none⟩)] w fun ex w' => ex = .returned (.bool true) ∧ RowsAt w' A c FB (fallB B (P.zip ps)) ∧ w'.heap[g]? = some (.cells (dkCs A B.length c (.slice none 0 0) (.bool true) (.int .i64 (wrap64 (ops + 1))) (.int .i64 0) (.slice none 0 0)) 55 (0, 0)) ∧ Fr (fun k => FB k ∨ k = g) w w' := by
  obtain ⟨o1, ho1⟩ : ∃ x, x = wrap64 (ops + 1) := ⟨_, rfl⟩
  rw [← ho1]
  obtain ⟨a1, ha1⟩ : ∃ x, x = wrap64 (armed - 1) := ⟨_, rfl⟩
  rw [← ha1] at h1
  have e1 := ha1.symm
  have e5 := ho1.symm
  have e0 : (armed == 0) = false := by simpa using h0
  have e2 : decide (a1 > 0) = false := decide_eq_false h1
  have e3 : decide (0 < a1) = false := decide_eq_false h1
  obtain ⟨w1, hw1⟩ : ∃ x, x = (w.setCell ⟨g, 3, none⟩ (.int .i64 o1)).setCell ⟨g, 4, none⟩ (.int .i64 a1) := ⟨_, rfl⟩
  have F1 := Fr.set (F := (· = g)) (p := ⟨g, 4, none⟩) (Fr.set (F := (· = g)) (p := ⟨g, 3, none⟩) (Fr.refl (· = g) w) rfl (.int .i64 o1)) rfl (.int .i64 a1)
  have G1 : ((w.setCell ⟨g, 3, none⟩ (.int .i64 o1)).setCell ⟨g, 4, none⟩ (.int .i64 a1)).heap[g]? = some (.cells (dkCs A B.length c vP (.bool v2) (.int .i64 o1) (.int .i64 a1) (.slice Ak ps.length ck)) 55 (0, 0)) := by
    rw [blk_set (blk_set hg 3 _) 4 _]
    simp
  rw [← hw1] at F1 G1
  have FF := Aside0.mk (falls_b G1 (hR.fr F1 (fun k hk e => hgF (e ▸ hk))) (Kd.R_step hP (fun k hk hlt => F1.block k hlt (fun e => hgW (e ▸ hk)))) hpen hgF hWF (fun k hk => Nat.lt_of_lt_of_le (hFB k hk) F1.size) (F_fr hK F1 (fun k hk e => hgK (e ▸ hk))) hck hKF)
  have F1A := Aside0.mk F1
  have y3 := blk_frozen hg 3
  have y4 := blk_frozen hg 4
  obtain ⟨z0, z1, z2, z3, z4, z5⟩ := dk_cells hg
  have W1 := Aside0.mk hw1
  clear hg h0 h1 ha1 ho1 F1 G1 hR hP hpen hgF hgW hgK hWF hFB hK hck hKF hw1
  go_enter Try.func56, Try.ntmps56
  go_wp2_with fail
  rw [← W1.out]
  refine FF.out.mono ?_
  rintro ex w2 ⟨rfl, hR, hG, hf⟩
  have R2 := Aside0.mk hR
  have G2 := Aside0.mk hG
  have F2 := Aside0.mk ((F1A.out.mono (F' := fun k => FB k ∨ k = g) (fun k e => .inr e)).then_ hf)
  clear hR hG hf z0 z1 z2 z3 z4 z5 y3 y4
  go_wp2_with fail
  go_ret
  exact ⟨rfl, R2.out, G2.out, F2.out⟩
end
theorem dk_goes {w : World} {g : Nat} {U : Nat → Prop} {s : DS} (h : DK w g U s) : Calls Try.prog 56 #[.pointer (some ⟨g, 0, none⟩)] w fun ex w' => ex = .returned (.bool (goesS s).1) ∧ DK w' g U (goesS s).2 ∧ Fr U w w' := by
  obtain ⟨lt, ug, pen, pos, A, Ak, c, ck, vP, FB, FW, FK, h1, h2, h3, h4, h5, h6, h7, h8⟩ := h
  unfold goesS
  by_cases h0 : s.armed = 0
  · rw [if_pos h0]
    refine (goes0_b h1 h0).mono ?_
    rintro ex w' ⟨rfl, hG, hf⟩
    exact ⟨rfl, ⟨fun k hk => Nat.lt_of_lt_of_le (lt k hk) hf.size, ug, pen, pos, A, Ak, c, ck, vP, FB, FW, FK, hG, h2.fr hf (fun k hk e => (h6 k hk).2 e), Kd.R_step h3 (fun k hk hlt => hf.block k hlt (h7 k hk).2.1), F_fr h4 hf (fun k hk => (h8 k hk).2.1), h5, h6, h7, h8⟩, hf.mono (fun k e => e ▸ ug)⟩
  · rw [if_neg h0]
    by_cases hq : wrap64 (s.armed - 1) > 0
    · rw [if_pos hq]
      refine (goes1_b h1 h0 hq).mono ?_
      rintro ex w' ⟨rfl, hG, hf⟩
      exact ⟨rfl, ⟨fun k hk => Nat.lt_of_lt_of_le (lt k hk) hf.size, ug, pen, pos, A, Ak, c, ck, vP, FB, FW, FK, hG, h2.fr hf (fun k hk e => (h6 k hk).2 e), Kd.R_step h3 (fun k hk hlt => hf.block k hlt (h7 k hk).2.1), F_fr h4 hf (fun k hk => (h8 k hk).2.1), h5, h6, h7, h8⟩, hf.mono (fun k e => e ▸ ug)⟩
    · rw [if_neg hq]
      refine (goes2_b h1 h0 hq h2 h3 pen (fun q => (h6 _ q).2 rfl) (fun q => (h7 _ q).2.1 rfl) (fun q => (h8 _ q).2.1 rfl) (fun k hk => (h7 k hk).2.2) (fun k hk => lt k (h6 k hk).1) h4 h5 (fun k hk => (h8 k hk).2.2.1)).mono ?_
      rintro ex w' ⟨rfl, hR, hG, hf⟩
      refine ⟨rfl, ⟨fun k hk => Nat.lt_of_lt_of_le (lt k hk) hf.size, ug, penOk_nil _, by simp only [fallsS, fallB_len]; exact pos, A, none, c, 0, .slice none 0 0, FB, fun _ => False, fun _ => False, ?_, hR, R_none _ _, F_none _ _, Nat.le_refl _, h6, fun k q => q.elim, fun k q => q.elim⟩, hf.mono (fun k hk => hk.elim (fun q => (h6 k q).1) (fun e => e ▸ ug))⟩
      show w'.heap[g]? = some (.cells (dkCs A (fallB s.B (s.P.zip s.picks)).length c (.slice none 0 0) (.bool true) (.int .i64 (wrap64 (s.ops + 1))) (.int .i64 0) (.slice none 0 0)) 55 (0, 0))
      rw [fallB_len]
      exact hG
set_option maxRecDepth 100000 in
theorem dk_crash {w : World} {g : Nat} {U UX : Nat → Prop} {s : DS} {ps : List Int} {Ax : Option Addr} {cx : Nat} (h : DK w g U s) (hX : Kd.F (Kd.int .u8) w UX Ax ps.length ps) (hcx : ps.length ≤ cx) (hUX : ∀ k, UX k → ¬ U k) :
    Calls Try.prog 23 #[.pointer (some ⟨g, 0, none⟩), .slice Ax ps.length cx] w fun ex w' => ex = .returned (.int .i64 (crashS s ps).1) ∧ DK w' g U (crashS s ps).2 ∧ Fr U w w' := by
  have D0 := Aside0.mk h
  have X0 := Aside0.mk hX
  have UX0 := Aside0.mk hUX
  have HC := Aside0.mk hcx
  unfold crashS
  clear h hX hUX hcx
  by_cases ho : s.off = true
  · rw [if_pos ho]
    have hcan : (if s.off = true then (5 : Int) else 0) = 5 := if_pos ho
    have HO := Aside0.mk hcan
    clear hcan ho
    go_enter Try.func23, Try.ntmps23
    go_wp2_with fail
    refine (dk_can D0.out).mono ?_
    rintro ex w1 ⟨rfl, hb⟩
    rw [HO.out]
    have D1 := Aside0.mk (D0.out.below hb)
    have F1 := Aside0.mk (Fr.of_below (F := U) hb)
    clear hb
    go_wp2_with fail
    go_ret
    exact ⟨rfl, D1.out, F1.out⟩
  · rw [if_neg ho]
    have hcan : (if s.off = true then (5 : Int) else 0) = 0 := if_neg ho
    have HO := Aside0.mk hcan
    clear hcan ho
    go_enter Try.func23, Try.ntmps23
    go_wp2_with fail
    refine (dk_can D0.out).mono ?_
    rintro ex w1 ⟨rfl, hb⟩
    rw [HO.out]
    have D1 := Aside0.mk (D0.out.below hb)
    have X1 := Aside0.mk (Kd.F_below X0.out hb)
    have F1 := Aside0.mk (Fr.of_below (F := U) hb)
    clear hb
    go_wp2_with fail
    refine (dk_falls D1.out X1.out HC.out UX0.out).mono ?_
    rintro ex w2 ⟨rfl, hD, hf⟩
    have D2 := Aside0.mk hD
    have F2 := Aside0.mk (F1.out.then_ hf)
    clear hD hf
    go_wp2_with fail
    go_ret
    exact ⟨rfl, D2.out, F2.out⟩
end Go.Proofs.Ythnadkdfgckijaa.Pure
