/- A disk that no call made: walked. -/
import Derived.Test.YthnadkdfgckijaaDkT
namespace Go.Proofs.Ythnadkdfgckijaa.Pure
open Go.RowKit Go.Proofs.Ythnadkdfgckijaa Go.Proofs.Ythnadkdfgckijaa.PAll Go.Proofs.Ythnadkdfgckijaa.Mem Go.Proofs.YthnadkdfgckijaaW.PrintWords Go.Proofs.YthnadkdfgckijaaW.PrintLast Go.Proofs.YthnadkdfgckijaaW.PrintMore
set_option linter.unusedVariables false
set_option linter.unusedSimpArgs false
set_option linter.unusedSectionVars false

/-- A disk that no call made. -/
def NoD (w : World) (pd : Value) : Prop := pd = .pointer none ∨ ∃ g, pd = .pointer (some ⟨g, 0, none⟩) ∧ w.heap[g]? = some (.cells (dkCs none 0 0 (.slice none 0 0) (.bool false) (.int .i64 0) (.int .i64 0) (.slice none 0 0)) 55 (0, 0))
theorem NoD.below {w w' : World} {pd : Value} (h : NoD w pd) (hb : Below w.heap.size w w') : NoD w' pd := by
  rcases h with rfl | ⟨g, rfl, hg⟩
  · exact .inl rfl
  · exact .inr ⟨g, rfl, (hb.block _ (blk_lt hg)).trans hg⟩
section
variable {w : World} {pd : Value}
set_option maxRecDepth 100000 in
theorem no_len (h : NoD w pd) : Calls Try.prog 32 #[pd] w fun e w' => e = .returned (.int .i64 0) ∧ Below w.heap.size w w' := by
  rcases h with rfl | ⟨g, rfl, hg⟩
  · go_enter Try.func32, Try.ntmps32
    go_wp2_with fail
    go_ret
    exact ⟨rfl, Below.refl _ _⟩
  · exact len_b hg
set_option maxRecDepth 100000 in
theorem no_can (h : NoD w pd) : Calls Try.prog 57 #[pd] w fun e w' => e = .returned (.int .i64 2) ∧ Below w.heap.size w w' := by
  have H := Aside0.mk h
  clear h
  go_enter Try.func57, Try.ntmps57
  go_wp2_with fail
  refine (no_len H.out).mono ?_
  rintro e w1 ⟨rfl, hb⟩
  have K := Aside0.mk hb
  clear hb
  go_wp2_with fail
  go_ret
  exact ⟨rfl, K.out⟩
set_option maxRecDepth 100000 in
theorem no_place (h : NoD w pd) (i : Int) : Calls Try.prog 54 #[pd, .int .i64 i] w fun e w' => e = .returned (.int .i64 2) ∧ Below w.heap.size w w' := by
  have H := Aside0.mk h
  clear h
  go_enter Try.func54, Try.ntmps54
  go_wp2_with fail
  refine (no_can H.out).mono ?_
  rintro e w1 ⟨rfl, hb⟩
  have K := Aside0.mk hb
  clear hb
  go_wp2_with fail
  go_ret
  exact ⟨rfl, K.out⟩
set_option maxRecDepth 100000 in
theorem no_write (h : NoD w pd) (i : Int) (v : Value) : Calls Try.prog 16 #[pd, .int .i64 i, v] w fun e w' => e = .returned (.int .i64 2) ∧ Below w.heap.size w w' := by
  have H := Aside0.mk h
  clear h
  go_enter Try.func16, Try.ntmps16
  go_wp2_with fail
  refine (no_place H.out i).mono ?_
  rintro e w1 ⟨rfl, hb⟩
  have K := Aside0.mk hb
  clear hb
  go_wp2_with fail
  go_ret
  exact ⟨rfl, K.out⟩
set_option maxRecDepth 100000 in
theorem no_flush (h : NoD w pd) : Calls Try.prog 18 #[pd] w fun e w' => e = .returned (.int .i64 2) ∧ Below w.heap.size w w' := by
  have H := Aside0.mk h
  clear h
  go_enter Try.func18, Try.ntmps18
  go_wp2_with fail
  refine (no_can H.out).mono ?_
  rintro e w1 ⟨rfl, hb⟩
  have K := Aside0.mk hb
  clear hb
  go_wp2_with fail
  go_ret
  exact ⟨rfl, K.out⟩
set_option maxRecDepth 100000 in
theorem no_arm (h : NoD w pd) (i : Int) (v : Value) : Calls Try.prog 29 #[pd, .int .i64 i, v] w fun e w' => e = .returned (.int .i64 2) ∧ Below w.heap.size w w' := by
  have H := Aside0.mk h
  clear h
  go_enter Try.func29, Try.ntmps29
  go_wp2_with fail
  refine (no_can H.out).mono ?_
  rintro e w1 ⟨rfl, hb⟩
  have K := Aside0.mk hb
  clear hb
  go_wp2_with fail
  go_ret
  exact ⟨rfl, K.out⟩
set_option maxRecDepth 100000 in
theorem no_crash (h : NoD w pd) (v : Value) : Calls Try.prog 23 #[pd, v] w fun e w' => e = .returned (.int .i64 2) ∧ Below w.heap.size w w' := by
  have H := Aside0.mk h
  clear h
  go_enter Try.func23, Try.ntmps23
  go_wp2_with fail
  refine (no_can H.out).mono ?_
  rintro e w1 ⟨rfl, hb⟩
  have K := Aside0.mk hb
  clear hb
  go_wp2_with fail
  go_ret
  exact ⟨rfl, K.out⟩
set_option maxRecDepth 100000 in
theorem no_restart (h : NoD w pd) : Calls Try.prog 30 #[pd] w fun e w' => e = .returned (.int .i64 2) ∧ Below w.heap.size w w' := by
  have H := Aside0.mk h
  clear h
  go_enter Try.func30, Try.ntmps30
  go_wp2_with fail
  refine (no_can H.out).mono ?_
  rintro e w1 ⟨rfl, hb⟩
  have K := Aside0.mk hb
  clear hb
  go_wp2_with fail
  go_ret
  exact ⟨rfl, K.out⟩
set_option maxRecDepth 100000 in
theorem no_on (h : NoD w pd) : Calls Try.prog 31 #[pd] w fun e w' => e = .returned (.bool false) ∧ Below w.heap.size w w' := by
  have H := Aside0.mk h
  clear h
  go_enter Try.func31, Try.ntmps31
  go_wp2_with fail
  refine (no_can H.out).mono ?_
  rintro e w1 ⟨rfl, hb⟩
  have K := Aside0.mk hb
  clear hb
  go_wp2_with fail
  go_ret
  exact ⟨rfl, K.out⟩
set_option maxRecDepth 100000 in
theorem no_clone (h : NoD w pd) : Calls Try.prog 34 #[pd] w fun e w' => e = .returned (.pointer none) ∧ Below w.heap.size w w' := by
  have H := Aside0.mk h
  clear h
  go_enter Try.func34, Try.ntmps34
  go_wp2_with fail
  refine (no_len H.out).mono ?_
  rintro e w1 ⟨rfl, hb⟩
  have K := Aside0.mk hb
  clear hb
  go_wp2_with fail
  go_ret
  exact ⟨rfl, K.out⟩
set_option maxRecDepth 100000 in
theorem no_ops (h : NoD w pd) : Calls Try.prog 33 #[pd] w fun e w' => e = .returned (.int .i64 0) ∧ Below w.heap.size w w' := by
  rcases h with rfl | ⟨g, rfl, hg⟩
  · go_enter Try.func33, Try.ntmps33
    go_wp2_with fail
    go_ret
    exact ⟨rfl, Below.refl _ _⟩
  · obtain ⟨z0, z1, z2, z3, z4, z5⟩ := dk_cells hg
    clear hg
    go_enter Try.func33, Try.ntmps33
    go_wp2_with fail
    go_ret
    exact ⟨rfl, Below.refl _ _⟩
set_option maxRecDepth 100000 in
theorem no_image (h : NoD w pd) : Calls Try.prog 21 #[pd] w fun e w' => ∃ A c, e = .returned (.slice A 0 c) ∧ Below w.heap.size w w' := by
  rcases h with rfl | ⟨g, rfl, hg⟩
  · go_enter Try.func21, Try.ntmps21
    go_wp2_with fail
    go_ret
    exact ⟨_, _, rfl, Below.refl _ _⟩
  · obtain ⟨z0, z1, z2, z3, z4, z5⟩ := dk_cells hg
    clear hg z1 z2 z3 z4 z5
    go_enter Try.func21, Try.ntmps21
    go_wp2_with fail
    refine (slices_Concat_byte_byte.calls none 0 [] [] w ⟨rfl, by decide, fun h => absurd h (by decide)⟩ (Nat.le_refl _) (by decide)).mono ?_
    rintro e w1 ⟨v, rfl, hR, hb⟩
    obtain ⟨Y, d, rfl, hO⟩ := own_of hR
    have K := Aside0.mk hb
    clear hR hO hb
    go_wp2_with fail
    go_ret
    exact ⟨_, _, rfl, K.out⟩
end
set_option maxRecDepth 100000 in
set_option maxHeartbeats 4000000 in
theorem no_pends {w : World} {pd : Value} (h : NoD w pd) : Pends w pd [] := by
  intro w1 hb
  have HN := h.below hb
  clear h
  have HB := Aside0.mk ((Below.refl w1.heap.size w1).alloc (Nat.le_refl _) (.cells #[.slice none 0 0] 53))
  have HX := Aside0.mk (heap_new w1 (.cells #[.slice none 0 0] 53))
  rcases HN with rfl | ⟨g, rfl, hg⟩
  · clear hb
    go_enter Try.func61, Try.ntmps61
    go_wp2_with fail
    go_ret
    exact ⟨_, rfl, Nat.le_refl _, ⟨_, HX.out, Kd.R_nil _ _ _ _ _⟩, HB.out⟩
  · have hg1 := (HB.out.block _ (blk_lt hg)).trans hg
    obtain ⟨z0, z1, z2, z3, z4, z5⟩ := dk_cells hg1
    clear hg hg1 z0 z2 z3 z4 z5 hb
    go_enter Try.func61, Try.ntmps61
    go_wp2_with fail
    refine (clone_w (P := []) (FW := fun _ => False) (Kd.R_nil _ _ _ _ _) (fun k q => q.elim) (by decide)).mono ?_
    rintro e w2 ⟨v', rfl, hR, hb⟩
    obtain ⟨A1, c1, rfl, _, _⟩ := R_own hR
    have RR := Aside0.mk hR
    have BB := Aside0.mk hb
    have X1 := Aside0.mk ((hb.block _ (blk_lt HX.out)).trans HX.out)
    have f1 := blk_frozen X1.out 0
    have cX : w2.cell? ⟨w1.heap.size, 0, none⟩ = some (.slice none 0 0) := by rw [blk_cell X1.out]; rfl
    clear hR hb z1
    go_wp2_with fail
    go_ret
    have hbx : Boxed (w2.setCell ⟨w1.heap.size, 0, none⟩ (.slice A1 0 c1)) w1.heap.size 53 (.slice A1 0 c1) := Boxed.set _ (show Boxed w2 _ 53 _ from X1.out)
    refine ⟨w1.heap.size, rfl, Nat.le_refl _, ⟨_, hbx, ?_⟩, (HB.out.trans (BB.out.mono HB.out.size)).setCell (p := ⟨w1.heap.size, 0, none⟩) (Nat.le_refl _) _⟩
    have hne : ∀ k, False ∨ (w1.alloc (.cells #[.slice none 0 0] 53)).heap.size ≤ k → k ≠ w1.heap.size := by
      rintro k (q | q) e
      · exact q
      · simp at q; omega
    refine Kd.R_mono (Kd.R_step RR.out (fun k hk hlt => Below.heap_setCell w2 _ _ k (hne k hk))) ?_
    intro k hk
    refine ⟨.inr ?_, hne k hk⟩
    rcases hk with q | q
    · exact q.elim
    · simp at q; omega
set_option maxRecDepth 100000 in
set_option maxHeartbeats 4000000 in
theorem no_read {w : World} {pd : Value} (h : NoD w pd) (i : Int) : Calls Try.prog 19 #[pd, .int .i64 i] w fun e w' => e = .returned (.tuple #[.slice none 0 0, .int .i64 2]) ∧ Below w.heap.size w w' := by
  obtain ⟨n1, n2, n3⟩ := three_new w (.cells #[.int .i64 i] 3) (.cells #[.slice none 0 0] 26) (.cells #[.int .i64 0] 30)
  have hb0 := (((Below.refl w.heap.size w).alloc (Nat.le_refl _) (.cells #[.int .i64 i] 3)).alloc (by simp) (.cells #[.slice none 0 0] 26)).alloc (by simp; omega) (.cells #[.int .i64 0] 30)
  obtain ⟨w0, hw0⟩ : ∃ x, x = ((w.alloc (.cells #[.int .i64 i] 3)).alloc (.cells #[.slice none 0 0] 26)).alloc (.cells #[.int .i64 0] 30) := ⟨_, rfl⟩
  rw [← hw0] at n1 n2 n3 hb0
  have D0 := Aside0.mk (h.below hb0)
  have N1 := Aside0.mk n1
  have N2 := Aside0.mk n2
  have N3 := Aside0.mk n3
  have K0 := Aside0.mk hb0
  have W0 := Aside0.mk hw0
  clear h n1 n2 n3 hb0 hw0
  refine (callsIn_wide (n := 4)).1 ?_
  refine callsIn_of_wp_marks Try.func19 rfl trivial ?_ rfl
  simp only [Try.ntmps19, List.size_toArray, List.length_cons, List.length_nil, Nat.reduceAdd, Nat.reduceSub, Array.replicate_succ, Array.replicate_zero, List.push_toArray, List.append_toArray, List.nil_append, List.cons_append]
  obtain ⟨x0, hx0⟩ : ∃ x : Value, x = .int .i64 i := ⟨_, rfl⟩
  gi_wp2_with fail
  rw [← W0.out]
  refine ⟨trivial, ((callsIn_wide (n := 4 - 1)).2 (no_place D0.out i)).mono ?_⟩
  rintro e w1 ⟨rfl, hb⟩
  have G1 := Aside0.mk ((hb.block _ (blk_lt N1.out)).trans N1.out)
  have G2 := Aside0.mk ((hb.block _ (blk_lt N2.out)).trans N2.out)
  have G3 := Aside0.mk ((hb.block _ (blk_lt N3.out)).trans N3.out)
  have K1 := Aside0.mk (K0.out.trans (hb.mono K0.out.size))
  clear hb N1 N2 N3 K0 W0 D0 hx0
  obtain ⟨r, hr⟩ : ∃ r : Int, r = 2 := ⟨_, rfl⟩
  rw [← hr]
  have e1 : (r == 0) = false := by rw [hr]; rfl
  have e2 : (r != 0) = true := by rw [hr]; rfl
  have f2 := blk_frozen G2.out 0
  have f3 := blk_frozen G3.out 0
  have c2 : w1.cell? ⟨w.heap.size + 1, 0, none⟩ = some (.slice none 0 0) := by rw [blk_cell G2.out]; rfl
  have c3 : w1.cell? ⟨w.heap.size + 1 + 1, 0, none⟩ = some (.int .i64 0) := by rw [blk_cell G3.out]; rfl
  have HR := Aside0.mk hr
  clear hr
  gi_wp2_with fail
  have q2 := (blk_set G2.out 0 (.slice none 0 0))
  have q3 := (blk_set ((Below.heap_setCell w1 ⟨w.heap.size + 1, 0, none⟩ (.slice none 0 0) (w.heap.size + 1 + 1) (by simp)).trans G3.out) 0 (.int .i64 r))
  have q2' := (Below.heap_setCell (w1.setCell ⟨w.heap.size + 1, 0, none⟩ (.slice none 0 0)) ⟨w.heap.size + 1 + 1, 0, none⟩ (.int .i64 r) (w.heap.size + 1) (by simp)).trans q2
  have e4 : ((w1.setCell ⟨w.heap.size + 1, 0, none⟩ (.slice none 0 0)).setCell ⟨w.heap.size + 1 + 1, 0, none⟩ (.int .i64 r)).cell? ⟨w.heap.size + 1, 0, none⟩ = some (.slice none 0 0) := by rw [blk_cell q2']; rfl
  have e5 : ((w1.setCell ⟨w.heap.size + 1, 0, none⟩ (.slice none 0 0)).setCell ⟨w.heap.size + 1 + 1, 0, none⟩ (.int .i64 r)).cell? ⟨w.heap.size + 1 + 1, 0, none⟩ = some (.int .i64 r) := by rw [blk_cell q3]; rfl
  refine ⟨.tuple #[.slice none 0 0, .int .i64 r], ?_, ⟨by rw [HR.out], (K1.out.setCell (p := ⟨w.heap.size + 1, 0, none⟩) (by show _ ≤ w.heap.size + 1; omega) _).setCell (p := ⟨w.heap.size + 1 + 1, 0, none⟩) (by show _ ≤ w.heap.size + 1 + 1; omega) _⟩⟩
  simp [results, Try.f19, go_sem, e4, e5]
/-- The two disks of the law. -/
structure TwoD (W : World) (gs : Nat) : Prop where
  out : ∀ k, k < 2 → ∃ pd, W.cell? ⟨gs, k, none⟩ = some pd ∧ NoD W pd
theorem TwoD.below {W W' : World} {gs : Nat} (h : TwoD W gs) (hb : Below W.heap.size W W') : TwoD W' gs := ⟨fun k hk => by
  obtain ⟨pd, h1, h2⟩ := h.out k hk
  exact ⟨pd, pw_cell_below hb h1, h2.below hb⟩⟩
theorem two_made (w : World) (pz : Value) (cz : Array Value) (hz : cz = dkCs none 0 0 (.slice none 0 0) (.bool false) (.int .i64 0) (.int .i64 0) (.slice none 0 0)) (hp : pz = .pointer (some ⟨w.heap.size, 0, none⟩)) : TwoD ((w.alloc (.cells cz 55)).alloc (.cells #[.pointer none, pz] 23)) (w.heap.size + 1) := by
  subst hz hp
  have hn := heap_new (w.alloc (.cells (dkCs none 0 0 (.slice none 0 0) (.bool false) (.int .i64 0) (.int .i64 0) (.slice none 0 0)) 55)) (.cells #[.pointer none, .pointer (some ⟨w.heap.size, 0, none⟩)] 23)
  rw [World.size_alloc] at hn
  obtain ⟨q0, q1⟩ := two_cells hn
  refine ⟨fun k hk => ?_⟩
  have hk2 : k = 0 ∨ k = 1 := by omega
  rcases hk2 with rfl | rfl
  · exact ⟨_, q0, .inl rfl⟩
  · exact ⟨_, q1, .inr ⟨_, rfl, (Below.heap_alloc _ _ _ (by simp)).trans (heap_new w _)⟩⟩
set_option maxRecDepth 100000 in
set_option maxHeartbeats 16000000 in
theorem none_c (w : World) (i : Int) (vb vp : Value) : Calls Try.prog 7 #[.int .i64 i, vb, vp] w fun e w' => e = .returned (.bool true) ∧ Below w.heap.size w w' := by
  have hb0 := ((Below.refl w.heap.size w).alloc (Nat.le_refl _) (.cells (dkCs none 0 0 (.slice none 0 0) (.bool false) (.int .i64 0) (.int .i64 0) (.slice none 0 0)) 55)).alloc (by simp) (.cells #[.pointer none, .pointer (some ⟨w.heap.size, 0, none⟩)] 23)
  have T0 := Aside0.mk (two_made w _ _ rfl rfl)
  have B0 := Aside0.mk hb0
  clear hb0
  go_enter Try.func7, Try.ntmps7
  go_wp2_with fail
  obtain ⟨w1, hw1⟩ : ∃ x, x = ((w.alloc (.cells (dkCs none 0 0 (.slice none 0 0) (.bool false) (.int .i64 0) (.int .i64 0) (.slice none 0 0)) 55)).alloc (.cells #[.pointer none, .pointer (some ⟨w.heap.size, 0, none⟩)] 23)) := ⟨_, rfl⟩
  rw [← hw1] at T0 B0
  rw [← hw1]
  obtain ⟨gs, hgs⟩ : ∃ x, x = w.heap.size + 1 := ⟨_, rfl⟩
  rw [← hgs] at T0
  rw [← hgs]
  clear hw1 hgs
  go_loopg [15] 2 (fun q v w' => ∃ (k : Nat), v = .int .i64 (k : Int) ∧ Aside0 (k + q = 2) ∧ Aside0 (TwoD w' gs) ∧ Aside0 (Below w.heap.size w w'))
  case atStart => exact ⟨0, rfl, ⟨Nat.zero_add _⟩, T0, B0⟩
  case round =>
    clear T0 B0
    obtain ⟨k, rfl, HJ, T, K⟩ := hrel
    by_cases hlt : k < 2
    case pos =>
      have hgd : decide ((k : Int) < 2) = true := (di_t hlt).1
      have hgd2 : decide (k < 2) = true := (di_t hlt).2
      have HN1 := Aside0.mk (st_n HJ.out hlt).1
      have HM := Aside0.mk (st_n HJ.out hlt).2
      have HV := Aside0.mk (stepv hlt (by decide))
      obtain ⟨pd, c0, hno⟩ := T.out.out k hlt
      have NO := Aside0.mk hno
      clear hno
      go_wp2_with fail
      refine (no_read NO.out i).mono ?_
      rintro e wa0 ⟨rfl, hb⟩
      replace NO := Aside0.mk (NO.out.below hb)
      replace T := Aside0.mk (T.out.below hb)
      replace K := Aside0.mk (K.out.trans (hb.mono K.out.size))
      clear hb c0
      go_wp2_with fail
      refine (no_write NO.out i vb).mono ?_
      rintro e wa1 ⟨rfl, hb⟩
      replace NO := Aside0.mk (NO.out.below hb)
      replace T := Aside0.mk (T.out.below hb)
      replace K := Aside0.mk (K.out.trans (hb.mono K.out.size))
      clear hb
      go_wp2_with fail
      refine (no_flush NO.out).mono ?_
      rintro e wa2 ⟨rfl, hb⟩
      replace NO := Aside0.mk (NO.out.below hb)
      replace T := Aside0.mk (T.out.below hb)
      replace K := Aside0.mk (K.out.trans (hb.mono K.out.size))
      clear hb
      go_wp2_with fail
      refine (no_arm NO.out i vp).mono ?_
      rintro e wa3 ⟨rfl, hb⟩
      replace NO := Aside0.mk (NO.out.below hb)
      replace T := Aside0.mk (T.out.below hb)
      replace K := Aside0.mk (K.out.trans (hb.mono K.out.size))
      clear hb
      go_wp2_with fail
      refine (no_crash NO.out vp).mono ?_
      rintro e wa4 ⟨rfl, hb⟩
      replace NO := Aside0.mk (NO.out.below hb)
      replace T := Aside0.mk (T.out.below hb)
      replace K := Aside0.mk (K.out.trans (hb.mono K.out.size))
      clear hb
      go_wp2_with fail
      refine (no_restart NO.out).mono ?_
      rintro e wa5 ⟨rfl, hb⟩
      replace NO := Aside0.mk (NO.out.below hb)
      replace T := Aside0.mk (T.out.below hb)
      replace K := Aside0.mk (K.out.trans (hb.mono K.out.size))
      clear hb
      go_wp2_with fail
      refine (no_on NO.out).mono ?_
      rintro e wa6 ⟨rfl, hb⟩
      replace NO := Aside0.mk (NO.out.below hb)
      replace T := Aside0.mk (T.out.below hb)
      replace K := Aside0.mk (K.out.trans (hb.mono K.out.size))
      clear hb
      go_wp2_with fail
      refine (no_len NO.out).mono ?_
      rintro e wa7 ⟨rfl, hb⟩
      replace NO := Aside0.mk (NO.out.below hb)
      replace T := Aside0.mk (T.out.below hb)
      replace K := Aside0.mk (K.out.trans (hb.mono K.out.size))
      clear hb
      go_wp2_with fail
      refine (no_image NO.out).mono ?_
      rintro e wa8 ⟨Ai, ci, rfl, hb⟩
      replace NO := Aside0.mk (NO.out.below hb)
      replace T := Aside0.mk (T.out.below hb)
      replace K := Aside0.mk (K.out.trans (hb.mono K.out.size))
      clear hb
      go_wp2_with fail
      refine (no_ops NO.out).mono ?_
      rintro e wa9 ⟨rfl, hb⟩
      replace NO := Aside0.mk (NO.out.below hb)
      replace T := Aside0.mk (T.out.below hb)
      replace K := Aside0.mk (K.out.trans (hb.mono K.out.size))
      clear hb
      go_wp2_with fail
      refine (no_clone NO.out).mono ?_
      rintro e wa10 ⟨rfl, hb⟩
      replace NO := Aside0.mk (NO.out.below hb)
      replace T := Aside0.mk (T.out.below hb)
      replace K := Aside0.mk (K.out.trans (hb.mono K.out.size))
      clear hb
      go_wp2_with fail
      refine (pending_c (no_pends NO.out) (by decide) (fun x hx => by cases hx) 9).mono ?_
      rintro e wa11 ⟨Ap, cp, rfl, _, _, hb⟩
      replace NO := Aside0.mk (NO.out.below hb)
      replace T := Aside0.mk (T.out.below hb)
      replace K := Aside0.mk (K.out.trans (hb.mono K.out.size))
      clear hb
      rw [List.take_nil, List.length_nil]
      go_wp2_with fail
      go_roundg (gk - 1)
      case measure => exact HM.out
      case rel => exact ⟨k + 1, by first | exact HV.out | rfl, HN1, T, K⟩
    have hke : k = 2 := en_k HJ.out hlt
    subst hke
    have hge : decide (((2 : Nat) : Int) < 2) = false := by decide
    clear hlt
    go_wp2_with fail
    refine (live_c wr).mono ?_
    rintro e wz ⟨rfl, hb⟩
    replace K := Aside0.mk (K.out.trans (hb.mono K.out.size))
    clear hb
    go_wp2_with fail
    go_ret
    exact ⟨rfl, K.out⟩
end Go.Proofs.Ythnadkdfgckijaa.Pure
