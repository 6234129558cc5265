/- Texts of this claim, joined: RfJ, DkRR, DkAr, DkCl, RfH, RfI, Pair, Does, DkDo, PureDiskDoes. -/
import Derived.Test.YthnadkdfgckijaaMB
import Derived.Test.YthnadkdfgckijaaMD
namespace Go.Proofs.Ythnadkdfgckijaa.Pure
open Go.RowKit Go.Proofs.Ythnadkdfgckijaa Go.Proofs.Ythnadkdfgckijaa.PAll Go.Proofs.Ythnadkdfgckijaa.Mem Go.Proofs.YthnadkdfgckijaaW.PrintWords Go.Proofs.YthnadkdfgckijaaW.PrintLast Go.Proofs.YthnadkdfgckijaaW.PrintMore
set_option linter.unusedVariables false
set_option linter.unusedSimpArgs false
set_option linter.unusedSectionVars false

set_option maxRecDepth 100000 in
set_option maxHeartbeats 16000000 in
/-- slices.Clone of bytes. -/
theorem clone_u {w : World} {A : Option Addr} {c n : Nat} {l : List Int} (hC : Kd.C (Kd.int .u8) w A n l) (hl : n ≤ 140737488351232) : Calls Try.prog 64 #[.slice A n c] w fun e w' => ∃ Y d, e = .returned (.slice Y n d) ∧ Own w' w.heap.size Y d l ∧ Below w.heap.size w w' := by
  have hn : l.length = n := hC.1
  have HROW := Aside0.mk hC
  have HL := Aside0.mk hl
  have HN := Aside0.mk hn
  have HB := Aside0.mk (Below.refl w.heap.size w)
  clear hC hl hn
  have ke := fun (w : World) (n c : Nat) => Lib.run_eql_slice_nil (P := Try.prog) w 26 5 A n c 0 0 Try.underlying26
  cases A with
  | none =>
    have h0 : n = 0 := by
      rcases Nat.eq_zero_or_pos n with h | h
      · exact h
      · obtain ⟨ad, e, _⟩ := HROW.out.2.2 h
        cases e
    subst h0
    have h1 : l = [] := List.eq_nil_of_length_eq_zero HN.out
    subst h1
    go_enter Try.func64, Try.ntmps64
    go_wp2
    go_ret
    exact ⟨none, 0, rfl, own_nil _ _, Below.refl _ _⟩
  | some ad =>
    go_enter Try.func64, Try.ntmps64
    go_wp2_with ((with_reducible refine gate_builtin (b := .append) (xs := #[.tmp 5, .tmp 6]) rfl ?_); at_builtin; refine Kd.R_append_rows (Kd.int .u8) (Rr := (Kd.int .u8).K w) (w0 := w) (W := w.alloc (.cells #[] 5)) w.heap.size (by rfl) (.tmp 5) (.tmp 6) 26 5 (.int .u8 0) 1 rfl Try.underlying26 info5 rfl (by decide) (by decide) (.slice (some ⟨w.heap.size, 0, none⟩) 0 0) ([] : List Int) l (some ad) n c (fun _ => True) (fun _ => False) rfl rfl ?aO ?aR (fun _ _ h => h) (fun _ h => h.elim) (fun _ _ => trivial) ?aB ?aS ?aL ?_)
    case aO => exact ⟨fun _ _ => trivial, [], World.ownsRow_made w #[] 0 (Nat.le_refl _) (by unfold maxLen; omega) rfl, Reps.none _ _⟩
    case aR => exact HROW.out.imp_ ((Below.refl _ _).alloc (Nat.le_refl _) _) (fun _ _ h => h)
    case aB => exact HB.out.alloc (Nat.le_refl _) _
    case aS => simp
    case aL => have := HL.out; simp; omega
    intro v1 w1 ho hb hg hat
    try rw [List.nil_append] at ho
    obtain ⟨Y, d, hv, hO⟩ := own_of ho
    rw [HN.out] at hv
    subst hv
    have OO := Aside0.mk hO
    have KB := Aside0.mk hb
    clear ho hb hg hat hO
    go_wp2
    go_ret
    exact ⟨Y, d, rfl, OO.out, KB.out⟩
end Go.Proofs.Ythnadkdfgckijaa.Pure
namespace Go.Proofs.Ythnadkdfgckijaa.Pure
open Go.RowKit Go.Proofs.Ythnadkdfgckijaa Go.Proofs.Ythnadkdfgckijaa.PAll Go.Proofs.Ythnadkdfgckijaa.Mem Go.Proofs.YthnadkdfgckijaaW.PrintWords Go.Proofs.YthnadkdfgckijaaW.PrintLast Go.Proofs.YthnadkdfgckijaaW.PrintMore
set_option linter.unusedVariables false
set_option linter.unusedSimpArgs false
set_option linter.unusedSectionVars false

/-- A disk at block g, made of what lies in U, that leaves R alone. -/
structure DKR (w : World) (g : Nat) (U R : Nat → Prop) (s : DS) : Prop where
  lt : ∀ k, U k → k < w.heap.size
  ug : U g
  pen : PenOk s.B.length s.P
  pos : 0 < s.B.length
  out : ∃ (A Ak : Option Addr) (c ck : Nat) (vP : Value) (FB FW FK : Nat → Prop), w.heap[g]? = some (.cells (dkCs A s.B.length c vP (.bool s.off) (.int .i64 s.ops) (.int .i64 s.armed) (.slice Ak s.picks.length ck)) 55 (0, 0)) ∧ RowsAt w A c FB s.B ∧ Kd.R kW 101 w 0 FW vP s.P ∧
    Kd.F (Kd.int .u8) w FK Ak s.picks.length s.picks ∧ s.picks.length ≤ ck ∧ (∀ k, FB k → U k ∧ k ≠ g) ∧ (∀ k, FW k → U k ∧ k ≠ g ∧ ¬ FB k) ∧ (∀ k, FK k → U k ∧ k ≠ g ∧ ¬ FB k ∧ ¬ FW k) ∧ (∀ k, R k → U k) ∧ ((∀ k, FB k → ¬ R k) ∧ ¬ R g ∧ (∀ k, vP.ownBlock = some k → ¬ R k))
theorem DKR.toDK {w : World} {g : Nat} {U R : Nat → Prop} {s : DS} (h : DKR w g U R s) : DK w g U s := by
  obtain ⟨lt, ug, pen, pos, A, Ak, c, ck, vP, FB, FW, FK, h1, h2, h3, h4, h5, h6, h7, h8, rl, h9⟩ := h
  exact ⟨lt, ug, pen, pos, A, Ak, c, ck, vP, FB, FW, FK, h1, h2, h3, h4, h5, h6, h7, h8⟩
theorem DKR.below {w w' : World} {g : Nat} {U R : Nat → Prop} {s : DS} (h : DKR w g U R s) (hb : Below w.heap.size w w') : DKR w' g U R s := by
  obtain ⟨lt, ug, pen, pos, A, Ak, c, ck, vP, FB, FW, FK, h1, h2, h3, h4, h5, h6, h7, h8, rl, h9⟩ := h
  exact ⟨fun k hk => Nat.lt_of_lt_of_le (lt k hk) hb.size, ug, pen, pos, A, Ak, c, ck, vP, FB, FW, FK, (hb.block _ (blk_lt h1)).trans h1, h2.below hb, Kd.R_below h3 hb, Kd.F_below h4 hb, h5, h6, h7, h8, rl, h9⟩
def DoesN (w w' : World) (g : Nat) (U R : Nat → Prop) (s : DS) : Prop := Fr (fun k => U k ∧ ¬ R k) w w' ∧ ∃ U' : Nat → Prop, DKR w' g U' R s ∧ ∀ k, U' k → U k ∨ w.heap.size ≤ k
theorem DoesN.same {w w' : World} {g : Nat} {U R : Nat → Prop} {s : DS} (h : DKR w g U R s) (hb : Below w.heap.size w w') : DoesN w w' g U R s := ⟨Fr.of_below hb, U, h.below hb, fun _ h => .inl h⟩
theorem kr_goes {w : World} {g : Nat} {U R : Nat → Prop} {s : DS} (h : DKR w g U R s) : Calls Try.prog 56 #[.pointer (some ⟨g, 0, none⟩)] w fun ex w' => ex = .returned (.bool (goesS s).1) ∧ DKR w' g U R (goesS s).2 ∧ Fr (fun k => U k ∧ ¬ R k) w w' := by
  obtain ⟨lt, ug, pen, pos, A, Ak, c, ck, vP, FB, FW, FK, h1, h2, h3, h4, h5, h6, h7, h8, rl, h9⟩ := h
  unfold goesS
  by_cases h0 : s.armed = 0
  · rw [if_pos h0]
    refine (goes0_b h1 h0).mono ?_
    rintro ex w' ⟨rfl, hG, hf⟩
    exact ⟨rfl, ⟨fun k hk => Nat.lt_of_lt_of_le (lt k hk) hf.size, ug, pen, pos, A, Ak, c, ck, vP, FB, FW, FK, hG, h2.fr hf (fun k hk e => (h6 k hk).2 e), Kd.R_step h3 (fun k hk hlt => hf.block k hlt (h7 k hk).2.1), F_fr h4 hf (fun k hk => (h8 k hk).2.1), h5, h6, h7, h8, rl, h9⟩, hf.mono (fun k e => e ▸ ⟨ug, h9.2.1⟩)⟩
  · rw [if_neg h0]
    by_cases hq : wrap64 (s.armed - 1) > 0
    · rw [if_pos hq]
      refine (goes1_b h1 h0 hq).mono ?_
      rintro ex w' ⟨rfl, hG, hf⟩
      exact ⟨rfl, ⟨fun k hk => Nat.lt_of_lt_of_le (lt k hk) hf.size, ug, pen, pos, A, Ak, c, ck, vP, FB, FW, FK, hG, h2.fr hf (fun k hk e => (h6 k hk).2 e), Kd.R_step h3 (fun k hk hlt => hf.block k hlt (h7 k hk).2.1), F_fr h4 hf (fun k hk => (h8 k hk).2.1), h5, h6, h7, h8, rl, h9⟩, hf.mono (fun k e => e ▸ ⟨ug, h9.2.1⟩)⟩
    · rw [if_neg hq]
      refine (goes2_b h1 h0 hq h2 h3 pen (fun q => (h6 _ q).2 rfl) (fun q => (h7 _ q).2.1 rfl) (fun q => (h8 _ q).2.1 rfl) (fun k hk => (h7 k hk).2.2) (fun k hk => lt k (h6 k hk).1) h4 h5 (fun k hk => (h8 k hk).2.2.1)).mono ?_
      rintro ex w' ⟨rfl, hR, hG, hf⟩
      refine ⟨rfl, ⟨fun k hk => Nat.lt_of_lt_of_le (lt k hk) hf.size, ug, penOk_nil _, by simp only [fallsS, fallB_len]; exact pos, A, none, c, 0, .slice none 0 0, FB, fun _ => False, fun _ => False, ?_, hR, R_none _ _, F_none _ _, Nat.le_refl _, h6, fun k q => q.elim, fun k q => q.elim, rl, ⟨h9.1, h9.2.1, fun k q => by cases q⟩⟩, hf.mono (fun k hk => hk.elim (fun q => ⟨(h6 k q).1, h9.1 k q⟩) (fun e => e ▸ ⟨ug, h9.2.1⟩))⟩
      show w'.heap[g]? = some (.cells (dkCs A (fallB s.B (s.P.zip s.picks)).length c (.slice none 0 0) (.bool true) (.int .i64 (wrap64 (s.ops + 1))) (.int .i64 0) (.slice none 0 0)) 55 (0, 0))
      rw [fallB_len]
      exact hG
set_option maxRecDepth 100000 in
set_option maxHeartbeats 16000000 in
theorem kr_flush {w : World} {g : Nat} {U R : Nat → Prop} {s : DS} (h : DKR w g U R s) :
    Calls Try.prog 18 #[.pointer (some ⟨g, 0, none⟩)] w fun ex w' => ex = .returned (.int .i64 (flushS s).1) ∧ DKR w' g U R (flushS s).2 ∧ Fr (fun k => U k ∧ ¬ R k) w w' := by
  have D0 := Aside0.mk h
  obtain ⟨r, hr⟩ : ∃ r, r = flushS s := ⟨_, rfl⟩
  rw [← hr]
  unfold flushS at hr
  clear h
  by_cases ho : s.off = true
  · rw [if_pos ho] at hr
    have hcan : (if s.off = true then (5 : Int) else 0) = 5 := if_pos ho
    have HO := Aside0.mk hcan
    subst hr
    clear hcan ho
    go_enter Try.func18, Try.ntmps18
    go_wp2_with fail
    refine (dk_can D0.out.toDK).mono ?_
    rintro ex w1 ⟨rfl, hb⟩
    rw [HO.out]
    have D1 := Aside0.mk (D0.out.below hb)
    have F1 := Aside0.mk (Fr.of_below (F := fun k => U k ∧ ¬ R k) hb)
    clear hb
    go_wp2_with fail
    go_ret
    exact ⟨rfl, D1.out, F1.out⟩
  · rw [if_neg ho] at hr
    have hcan : (if s.off = true then (5 : Int) else 0) = 0 := if_neg ho
    have HO := Aside0.mk hcan
    obtain ⟨⟨b, s2⟩, hgs⟩ : ∃ x, x = goesS s := ⟨_, rfl⟩
    have QG := Aside0.mk (fun (w' : World) (h : DKR w' g U R s) => kr_goes h)
    rw [← hgs] at hr QG
    simp only at hr QG
    clear hcan ho hgs
    go_enter Try.func18, Try.ntmps18
    go_wp2_with fail
    refine (dk_can D0.out.toDK).mono ?_
    rintro ex w1 ⟨rfl, hb⟩
    rw [HO.out]
    have D1 := Aside0.mk (D0.out.below hb)
    have F1 := Aside0.mk (Fr.of_below (F := fun k => U k ∧ ¬ R k) hb)
    have HR := Aside0.mk hr
    clear hb hr
    go_wp2_with fail
    refine (QG.out _ D1.out).mono ?_
    rintro ex w2 ⟨rfl, hD, hf⟩
    have D2 := Aside0.mk hD
    have F2 := Aside0.mk (F1.out.then_ hf)
    have hr := HR.out
    clear hD hf D1 F1 D0 QG HR
    cases b
    case true =>
      rw [if_pos rfl] at hr
      subst hr
      go_wp2_with fail
      go_ret
      exact ⟨rfl, D2.out, F2.out⟩
    case false =>
      rw [if_neg (by decide)] at hr
      subst hr
      obtain ⟨lt, ug, pen, pos, A, Ak, c, ck, vP, FB, FW, FK, h1, h2, h3, h4, h5, h6, h7, h8, rl, h9⟩ := D2.out
      obtain ⟨B, P, off, ops, armed, ps⟩ := s2
      simp only at pen pos h1 h2 h3 h4 h5 h6 h7 h8 h9
      obtain ⟨AP, cP, rfl, hcP, hPF⟩ := R_own h3
      have G0 := Aside0.mk h1
      have R0 := Aside0.mk (show RowsAt w2 A c FB (flushB B (P.take 0)) from h2)
      have PF := Aside0.mk hPF
      have PN := Aside0.mk pen
      have GF := Aside0.mk (show ¬ FB g from fun q => (h6 _ q).2 rfl)
      have WF := Aside0.mk (show ∀ k, FW k → ¬ FB k from fun k hk => (h7 k hk).2.2)
      have FS := Aside0.mk (show ∀ k, FB k → k < w2.heap.size from fun k hk => lt k (h6 k hk).1)
      have HL := Aside0.mk (Kd.F_max hPF)
      have REST := Aside0.mk (And.intro lt (And.intro ug (And.intro pos (And.intro h4 (And.intro h5 (And.intro h6 (And.intro h7 (And.intro h8 (And.intro rl h9)))))))))
      obtain ⟨z0, z1, z2, z3, z4, z5⟩ := dk_cells h1
      clear lt ug pen pos h1 h2 h3 h4 h5 h6 h7 h8 rl h9 hPF D2
      go_wp2_with fail
      clear z0 z1 z2 z3 z4 z5
      go_loopg [18] P.length (fun q v18 w' => ∃ (k : Nat), v18 = .int .i64 (k : Int) ∧ Aside0 (k + q = P.length) ∧ Aside0 (RowsAt w' A c FB (flushB B (P.take k))) ∧ Aside0 (Fr FB w2 w'))
      case atStart => exact ⟨0, rfl, ⟨Nat.zero_add _⟩, R0, ⟨Fr.refl _ _⟩⟩
      case round =>
        clear R0
        obtain ⟨k, rfl, HJ, RR, FF⟩ := hrel
        by_cases hlt : k < P.length
        case pos =>
          have hgd := (di_t hlt).1
          have hgd2 := (di_t hlt).2
          have HN := Aside0.mk (st_n HJ.out hlt).1
          have HM := Aside0.mk (st_n HJ.out hlt).2
          have HV := Aside0.mk (stepv hlt HL.out)
          obtain ⟨ad, Ab, cb, hAP, q0, q1, hcb, hbF⟩ := pen_at (F_fr PF.out FF.out WF.out) hlt
          obtain ⟨I, b, hPk, hI, hb, hby⟩ := pen_get PN.out hlt
          rw [hPk] at q0 q1 hcb hbF
          simp only at q0 q1 hcb hbF
          rw [hb] at q1 hcb hbF
          cases hAP
          have NX := Aside0.mk (flushB_next B P k hlt)
          rw [hPk] at NX
          have BI := Aside0.mk (And.intro hI (And.intro hb (And.intro hby hcb)))
          have BF := Aside0.mk hbF
          have GS := Aside0.mk FF.out.size
          clear hPk hI hb hby hcb hbF HJ
          go_upto_region 9 with fail
          clear q0 q1
          have hbn := (Below.refl wr.heap.size wr).alloc (Nat.le_refl _) (.cells #[.int .i64 (I : Int), .slice Ab 256 cb] 101)
          have N5 := Aside0.mk (heap_new wr (.cells #[.int .i64 (I : Int), .slice Ab 256 cb] 101))
          replace RR := Aside0.mk (RR.out.below hbn)
          replace FF := Aside0.mk (FF.out.then_ (Fr.of_below hbn))
          replace BF := Aside0.mk (Kd.F_below BF.out hbn)
          obtain ⟨w5, hw5⟩ : ∃ x, x = wr.alloc (.cells #[.int .i64 (I : Int), .slice Ab 256 cb] 101) := ⟨_, rfl⟩
          rw [← hw5] at N5 RR FF BF ⊢
          clear hw5 hbn GS
          obtain ⟨g5, hg5⟩ : ∃ x, x = wr.heap.size := ⟨_, rfl⟩
          rw [← hg5] at N5 ⊢
          clear hg5
          obtain ⟨y0, y1⟩ := two_cells N5.out
          have GG := Aside0.mk (fr_blk FF.out G0.out GF.out)
          have FS5 := Aside0.mk (show ∀ q, FB q → q < w5.heap.size from fun q hq => Nat.lt_of_lt_of_le (FS.out q hq) FF.out.size)
          have RC := Aside0.mk (reach_c (A := A) (c := c) (FB := FB) (UX := FW) (B := flushB B (P.take k)) (by rw [flushB_len]; exact GG.out) RR.out GF.out (I := I) (by rw [flushB_len]; exact BI.out.1) BI.out.2.1 BI.out.2.2.1 BF.out BI.out.2.2.2 WF.out FS5.out 15)
          rw [← NX.out] at RC
          go_wp2_with fail
          clear y0 y1
          refine RC.out.mono ?_
          rintro e wn ⟨rfl, hR, hf⟩
          have RN := Aside0.mk hR
          have FN := Aside0.mk (FF.out.then_ hf)
          clear hR hf RC
          go_wp2_with fail
          go_roundg (gk - 1)
          case measure => exact HM.out
          case rel => exact ⟨k + 1, HV.out, HN, RN, FN⟩
        have hke : k = P.length := en_k HJ.out hlt
        have hge := (di_f hke).1
        have hge2 := (di_f hke).2
        have RE := Aside0.mk (show RowsAt wr A c FB (flushB B P) from by
          have h := RR.out
          rw [List.take_of_length_le (by omega)] at h
          exact h)
        have GE := Aside0.mk (fr_blk FF.out G0.out GF.out)
        have y1 := blk_frozen GE.out 1
        clear hlt hke RR HJ
        obtain ⟨z0, z1, z2, z3, z4, z5⟩ := dk_cells GE.out
        go_wp2_with fail
        go_ret
        obtain ⟨lt, ug, pos, h4, h5, h6, h7, h8, rl, h9⟩ := REST.out
        have t1 : Fr (· = g) wr _ := Fr.set (p := ⟨g, 1, none⟩) (Fr.refl (· = g) wr) rfl (.slice none 0 0)
        have f1 : Fr (fun k => U k ∧ ¬ R k) w2 wr := FF.out.mono (fun k q => ⟨(h6 k q).1, h9.1 k q⟩)
        have f2 : Fr (fun k => U k ∧ ¬ R k) w2 _ := Fr.set (p := ⟨g, 1, none⟩) f1 ⟨ug, h9.2.1⟩ (.slice none 0 0)
        refine ⟨rfl, ⟨fun k hk => Nat.lt_of_lt_of_le (lt k hk) f2.size, ug, penOk_nil _, by simp only [flushB_len]; exact pos, A, Ak, c, ck, .slice none 0 0, FB, fun _ => False, FK, ?_, RE.out.fr t1 (fun k q e => GF.out (e ▸ q)), R_none _ _, F_fr (F_fr h4 FF.out (fun k q => (h8 k q).2.2.1)) t1 (fun k q => (h8 k q).2.1), h5, h6, fun k q => q.elim, fun k q => ⟨(h8 k q).1, (h8 k q).2.1, (h8 k q).2.2.1, fun z => z⟩, rl, ⟨h9.1, h9.2.1, fun k q => by cases q⟩⟩, F2.out.then_ f2⟩
        show (World.setCell wr _ _).heap[g]? = some (.cells (dkCs A (flushB B P).length c (.slice none 0 0) (.bool off) (.int .i64 ops) (.int .i64 armed) (.slice Ak ps.length ck)) 55 (0, 0))
        rw [flushB_len, blk_set GE.out 1 _]
        simp
section
variable {w : World} {g : Nat} {U R UX : Nat → Prop} {s : DS} {Ax : Option Addr} {cx : Nat} {b : List Int}
set_option maxRecDepth 100000 in
theorem kwrite1 (h : DKR w g U R s) (i r : Int) (n : Nat) (hr : placeS s i = r) (h0 : r ≠ 0) : Calls Try.prog 16 #[.pointer (some ⟨g, 0, none⟩), .int .i64 i, .slice Ax n cx] w fun ex w' => ex = .returned (.int .i64 r) ∧ Below w.heap.size w w' := by
  have D0 := Aside0.mk h
  have HR := Aside0.mk hr
  have e1 : (r == 0) = false := by simpa using h0
  have e2 : (r != 0) = true := by simpa using h0
  clear h hr h0
  go_enter Try.func16, Try.ntmps16
  go_wp2_with fail
  refine (dk_place D0.out.toDK i).mono ?_
  rintro ex w1 ⟨rfl, hb⟩
  rw [HR.out]
  have K1 := Aside0.mk hb
  clear hb
  go_wp2_with fail
  go_ret
  exact ⟨rfl, K1.out⟩
set_option maxRecDepth 100000 in
theorem kwrite2 (h : DKR w g U R s) (i : Int) (n : Nat) (hr : placeS s i = 0) (hn : n ≠ 256) : Calls Try.prog 16 #[.pointer (some ⟨g, 0, none⟩), .int .i64 i, .slice Ax n cx] w fun ex w' => ex = .returned (.int .i64 31) ∧ Below w.heap.size w w' := by
  have D0 := Aside0.mk h
  have HR := Aside0.mk hr
  have e1 : ((n : Int) == 256) = false := by simp; omega
  have e2 : ((n : Int) != 256) = true := by simp; omega
  have e3 : (n == 256) = false := by simpa using hn
  have e4 : (n != 256) = true := by simpa using hn
  clear h hr hn
  go_enter Try.func16, Try.ntmps16
  go_wp2_with fail
  refine (dk_place D0.out.toDK i).mono ?_
  rintro ex w1 ⟨rfl, hb⟩
  rw [HR.out]
  have K1 := Aside0.mk hb
  clear hb
  go_wp2_with fail
  go_ret
  exact ⟨rfl, K1.out⟩
/-- What is known behind the append. -/
theorem wrote_kr {w1 wn w3 : World} {g : Nat} {U R : Nat → Prop} {s : DS} {A Ak : Option Addr} {c ck : Nat} {vP v3 : Value} {FB FW FK : Nat → Prop} {x : Int × List Int} (lt : ∀ k, U k → k < w1.heap.size) (ug : U g) (pen : PenOk s.B.length s.P) (pos : 0 < s.B.length)
    (h1 : w1.heap[g]? = some (.cells (dkCs A s.B.length c vP (.bool s.off) (.int .i64 s.ops) (.int .i64 s.armed) (.slice Ak s.picks.length ck)) 55 (0, 0))) (h2 : RowsAt w1 A c FB s.B) (hP0 : ∀ k, vP.ownBlock = some k → FW k) (h4 : Kd.F (Kd.int .u8) w1 FK Ak s.picks.length s.picks) (h5 : s.picks.length ≤ ck)
    (h6 : ∀ k, FB k → U k ∧ k ≠ g) (h7 : ∀ k, FW k → U k ∧ k ≠ g ∧ ¬ FB k) (h8 : ∀ k, FK k → U k ∧ k ≠ g ∧ ¬ FB k ∧ ¬ FW k) (rl : ∀ k, R k → U k) (h9 : (∀ k, FB k → ¬ R k) ∧ ¬ R g ∧ (∀ k, vP.ownBlock = some k → ¬ R k)) (hat : v3.ownBlock = vP.ownBlock ∨ ∃ b, v3.ownBlock = some b ∧ wn.heap.size ≤ b) (hbn : Below w1.heap.size w1 wn) (hg3 : wn.grownBy w3 vP.ownBlock) (hx : 0 ≤ x.1 ∧ x.1 < (s.B.length : Int) ∧ x.2.length = 256 ∧ Bytes x.2)
    (hR3 : Kd.R kW 101 w3 0 (fun k => FW k ∨ w1.heap.size ≤ k) v3 (s.P ++ [x])) :
    w3.heap[g]? = some (.cells (dkCs A s.B.length c vP (.bool s.off) (.int .i64 s.ops) (.int .i64 s.armed) (.slice Ak s.picks.length ck)) 55 (0, 0)) ∧ Fr (fun k => U k ∧ ¬ R k) w1 (w3.setCell ⟨g, 1, none⟩ v3) ∧ DKR (w3.setCell ⟨g, 1, none⟩ v3) g (fun k => U k ∨ w1.heap.size ≤ k ∧ k < w3.heap.size) R { s with P := s.P ++ [x] } := by
  have f3 : Fr FW w1 w3 := ⟨hg3.os.trans hbn.os, hg3.tape.trans hbn.tape, hg3.output.trans hbn.output, Nat.le_trans hbn.size hg3.size, fun k hk hn => (hg3.block k (Nat.lt_of_lt_of_le hk hbn.size) (fun e => hn (hP0 k e.symm))).trans (hbn.block k hk)⟩
  have g3 := fr_blk f3 h1 (fun q => (h7 _ q).2.1 rfl)
  have t := Fr.set (p := ⟨g, 1, none⟩) (Fr.refl (· = g) w3) rfl v3
  have hs : (w3.setCell ⟨g, 1, none⟩ v3).heap.size = w3.heap.size := by simp [World.setCell]
  have f3' : Fr (fun k => U k ∧ ¬ R k) w1 w3 := ⟨hg3.os.trans hbn.os, hg3.tape.trans hbn.tape, hg3.output.trans hbn.output, Nat.le_trans hbn.size hg3.size, fun k hk hn => (hg3.block k (Nat.lt_of_lt_of_le hk hbn.size) (fun e => hn ⟨(h7 k (hP0 k e.symm)).1, h9.2.2 k e.symm⟩)).trans (hbn.block k hk)⟩
  have f4 : Fr (fun k => U k ∧ ¬ R k) w1 (w3.setCell ⟨g, 1, none⟩ v3) := Fr.set (p := ⟨g, 1, none⟩) f3' ⟨ug, h9.2.1⟩ v3
  refine ⟨g3, f4, ⟨fun k hk => ?_, .inl ug, fun y hy => ?_, pos, A, Ak, c, ck, v3, FB, fun k => (FW k ∨ w1.heap.size ≤ k) ∧ k < w3.heap.size, FK, ?_, (h2.fr f3 (fun k q z => (h7 k z).2.2 q)).fr t (fun k q e => (h6 k q).2 e), ?_, F_fr (F_fr h4 f3 (fun k q => (h8 k q).2.2.2)) t (fun k q => (h8 k q).2.1), h5, fun k q => ⟨.inl (h6 k q).1, (h6 k q).2⟩, fun k q => ?_, fun k q => ⟨.inl (h8 k q).1, (h8 k q).2.1, (h8 k q).2.2.1, fun z => ?_⟩, fun k q => .inl (rl k q), ⟨h9.1, h9.2.1, fun k q z => ?_⟩⟩⟩
  · rw [hs]
    rcases hk with q | q
    · exact Nat.lt_of_lt_of_le (lt k q) f3.size
    · exact q.2
  · rcases List.mem_append.1 hy with q | q
    · exact pen y q
    · rw [List.mem_singleton] at q
      rw [q]
      exact hx
  · rw [blk_set g3 1 _]
    simp
  · refine Kd.R_step (Kd.R_mono (Kd.R_bound hR3) (fun k q => ⟨q.1, q.2.2.1⟩)) (fun k q hlt => t.block k hlt (fun e => ?_))
    rcases q.1 with z | z
    · exact (h7 k z).2.1 e
    · have := blk_lt h1
      omega
  · rcases q.1 with z | z
    · exact ⟨.inl (h7 k z).1, (h7 k z).2⟩
    · refine ⟨.inr ⟨z, q.2⟩, ?_, fun y => ?_⟩
      · have := blk_lt h1
        omega
      · have := lt k (h6 k y).1
        omega
  · rcases z.1 with y | y
    · exact (h8 k q).2.2.2 y
    · have := lt k (h8 k q).1
      omega
  · rcases hat with e | ⟨b, e, hb⟩
    · exact h9.2.2 k (e ▸ q) z
    · rw [e] at q
      cases q
      have := lt _ (rl _ z)
      have := hbn.size
      omega
set_option maxRecDepth 100000 in
set_option maxHeartbeats 16000000 in
theorem kwrite3 (h : DKR w g U R s) (i r : Int) (hr : placeS s i = 0) (hb : b.length = 256) (hby : Bytes b) (hX : Kd.F (Kd.int .u8) w UX Ax 256 b) (hcx : 256 ≤ cx) (hUX : ∀ k, UX k → ¬ U k) (hPl : s.P.length ≤ 1000000) (s2 : DS) (hs2 : s2 = (goesS { s with P := s.P ++ [(i, b)] }).2) (hr2 : r = if (goesS { s with P := s.P ++ [(i, b)] }).1 = true then 5 else 0) :
    Calls Try.prog 16 #[.pointer (some ⟨g, 0, none⟩), .int .i64 i, .slice Ax 256 cx] w fun ex w' => ex = .returned (.int .i64 r) ∧ DoesN w w' g U R s2 := by
  have D0 := Aside0.mk h
  have HR := Aside0.mk hr
  have XF := Aside0.mk hX
  have HB := Aside0.mk (And.intro hb (And.intro hby hcx))
  have UXA := Aside0.mk hUX
  have PL := Aside0.mk hPl
  have S2 := Aside0.mk hs2
  have R2 := Aside0.mk hr2
  clear h hr hX hb hby hcx hUX hPl hs2 hr2
  go_enter Try.func16, Try.ntmps16
  go_wp2_with fail
  refine (dk_place D0.out.toDK i).mono ?_
  rintro ex w1 ⟨rfl, hb⟩
  rw [HR.out]
  have F1 := Aside0.mk (Fr.of_below (F := fun k => U k ∧ ¬ R k) hb)
  have D1 := Aside0.mk (D0.out.below hb)
  have X1 := Aside0.mk (Kd.F_below XF.out hb)
  have S1 := Aside0.mk hb.size
  clear hb D0 XF
  go_upto_region 6 with fail
  obtain ⟨lt, ug, pen, pos, A, Ak, c, ck, vP, FB, FW, FK, h1, h2, h3, h4, h5, h6, h7, h8, rl, h9⟩ := D1.out
  obtain ⟨AP, cP, hvP, hcP, hPF⟩ := R_own h3
  subst hvP
  have hd : Below w1.heap.size w1 w1.drew := below_drew (Below.refl _ _)
  have G2 := Aside0.mk (show w1.drew.heap[g]? = _ from h1)
  have X2 := Aside0.mk (Kd.F_below X1.out hd)
  have P2 := Aside0.mk (Kd.R_step (w1 := w1.drew) h3 (fun _ _ _ => rfl))
  have REST := Aside0.mk (And.intro lt (And.intro ug (And.intro pen (And.intro pos (And.intro h2 (And.intro h4 (And.intro h5 (And.intro h6 (And.intro h7 (And.intro h8 (And.intro rl h9)))))))))))
  have y1 := blk_frozen G2.out 1
  obtain ⟨z0, z1, z2, z3, z4, z5⟩ := dk_cells h1
  obtain ⟨q0, q1, q2, q3, q4, q5⟩ := dk_cells G2.out
  clear lt ug pen pos h1 h2 h3 h4 h5 h6 h7 h8 rl h9 hPF hd
  have XC := Aside0.mk (show Kd.C (Kd.int .u8) w1.drew Ax b.length b from by rw [HB.out.1]; exact Kd.F_now X2.out)
  have FWl := Aside0.mk (show ∀ k, FW k → k < w1.heap.size from fun k q => REST.out.1 k (REST.out.2.2.2.2.2.2.2.2.1 k q).1)
  have IB := Aside0.mk (placeS_ok HR.out)
  go_region_law (first
    | (refine goes_ Try.func55 (by kernel_rfl) rfl #[.slice Ax 256 cx] (by rfl) rfl rfl (by (try simp only [List.map_toArray, List.map_cons, List.map_nil]); first | done | rfl) ?_; refine (clone_r XC.out HB.out.1 HB.out.2.2 (by decide)).mono ?_; rintro e wn ⟨Y, yd, rfl, hyd, hYR, hbn⟩; refine ⟨_, rfl, ?_⟩; have BN := Aside0.mk (show Below w1.heap.size w1 wn from (below_drew (Below.refl w1.heap.size w1)).trans hbn); have YR := Aside0.mk hYR; have GN := Aside0.mk ((hbn.block _ (blk_lt G2.out)).trans G2.out); have PN := Aside0.mk (Kd.R_step P2.out (w1 := wn) (fun k _ hlt => hbn.block k hlt)); have e1 : (wn.alloc (.cells #[.int .i64 i, .slice Y 256 yd] 101)).cell? ⟨g, 1, none⟩ = some (.slice AP s.P.length cP) := (dk_cells (((Below.refl wn.heap.size wn).alloc (Nat.le_refl _) (.cells #[.int .i64 i, .slice Y 256 yd] 101)).block _ (blk_lt GN.out) |>.trans GN.out)).2.1; clear hbn hYR q0 q1 q2 q3 q4 q5 XC; obtain ⟨q0, q1, q2, q3, q4, q5⟩ := dk_cells GN.out)
    | (refine Kd.R_append_step kW (w0 := wn) 0 (by rfl) (.tmp 21) (.tmp 26) 53 101 (.agg #[.int .i64 0, .slice none 0 0]) 32 rfl Try.underlying53 info101 rfl (by decide) (by decide) (.slice AP s.P.length cP) s.P (i, b) [.int .i64 i, .slice Y 256 yd] (fun k => FW k ∨ w1.heap.size ≤ k) (fun k => w1.heap.size ≤ k ∧ k < wn.heap.size) rfl rfl (pen_make2 YR.out) (fun k q => ⟨.inr q.1, fun e => Nat.lt_irrefl _ (Nat.lt_of_lt_of_le (FWl.out _ (P2.out.1 k e.symm)) q.1)⟩) (fun k q => .inr (Nat.le_trans BN.out.size q)) (Kd.R_mono PN.out (fun k q => .inl q)) (below0 wn) (Nat.zero_le _) (by have := PL.out; omega) ?_; intro v3 w3 hR3 hb3 hg3 hat3; obtain ⟨A3, c3, hv3, hc3, hF3⟩ := R_own hR3; subst hv3; clear hc3 hF3; have WD := Aside0.mk (wrote_kr (x := (i, b)) REST.out.1 REST.out.2.1 REST.out.2.2.1 REST.out.2.2.2.1 G2.out REST.out.2.2.2.2.1 P2.out.1 REST.out.2.2.2.2.2.1 REST.out.2.2.2.2.2.2.1 REST.out.2.2.2.2.2.2.2.1 REST.out.2.2.2.2.2.2.2.2.1 REST.out.2.2.2.2.2.2.2.2.2.1 REST.out.2.2.2.2.2.2.2.2.2.2.1 REST.out.2.2.2.2.2.2.2.2.2.2.2 hat3 BN.out hg3 ⟨IB.out.2.1, IB.out.2.2, HB.out.1, HB.out.2.1⟩ hR3); have y1 := blk_frozen WD.out.1 1; clear hR3 hb3 hg3 hat3 e1 q0 q1 q2 q3 q4 q5; obtain ⟨q0, q1, q2, q3, q4, q5⟩ := dk_cells WD.out.1))
  all_goals
    have WE := WD.out.2
    rw [show (s.P ++ [(i, b)]).length = s.P.length + 1 by simp] at WE
    obtain ⟨w4, hw4⟩ : ∃ x, x = w3.setCell ⟨g, 1, none⟩ (.slice A3 (s.P.length + 1) c3) := ⟨_, rfl⟩
    rw [← hw4] at WE ⊢
    have F4 := Aside0.mk WE.1
    have D4 := Aside0.mk WE.2
    have hgo := kr_goes D4.out
    obtain ⟨⟨bb, s3⟩, hgs⟩ : ∃ x, x = goesS { s with P := s.P ++ [(i, b)] } := ⟨_, rfl⟩
    have e2 := S2.out
    have e3 := R2.out
    rw [← hgs] at e2 e3 hgo
    simp only at e2 e3 hgo
    have QG := Aside0.mk hgo
    have EE := Aside0.mk (And.intro e2 e3)
    clear WE hw4 hgs e2 e3 hgo WD q0 q1 q2 q3 q4 q5 z0 z1 z2 z3 z4 z5 y1
    go_wp2_with fail
    refine QG.out.mono ?_
    rintro ex w5 ⟨rfl, hD, hf⟩
    have DF := Aside0.mk (show DoesN w w5 g U R s3 from ⟨(F1.out.then_ F4.out).trans hf (fun k q => q.1.elim (fun z => .inl ⟨z, q.2⟩) (fun z => .inr (Nat.le_trans S1.out z.1))), _, hD, fun k q => q.elim .inl (fun z => .inr (Nat.le_trans S1.out z.1))⟩)
    obtain ⟨e2, e3⟩ := EE.out
    clear hD hf QG EE D4 F4
    subst e2
    cases bb
    · rw [if_neg (by decide)] at e3
      subst e3
      go_wp2_with fail
      go_ret
      exact ⟨rfl, DF.out⟩
    · rw [if_pos rfl] at e3
      subst e3
      go_wp2_with fail
      go_ret
      exact ⟨rfl, DF.out⟩
end
theorem kr_write {w : World} {g : Nat} {U R UX : Nat → Prop} {s : DS} {Ax : Option Addr} {cx n : Nat} {b : List Int} (h : DKR w g U R s) (i : Int) (hn : b.length = n) (hby : Bytes b) (hX : Kd.F (Kd.int .u8) w UX Ax n b) (hcx : n ≤ cx) (hUX : ∀ k, UX k → ¬ U k) (hPl : s.P.length ≤ 1000000) :
    Calls Try.prog 16 #[.pointer (some ⟨g, 0, none⟩), .int .i64 i, .slice Ax n cx] w fun ex w' => ex = .returned (.int .i64 (writeS s i b).1) ∧ DoesN w w' g U R (writeS s i b).2 := by
  unfold writeS
  by_cases hp : placeS s i = 0
  · rw [if_neg (by simpa using hp)]
    by_cases hl : b.length = 256
    · rw [if_neg (by simpa using hl)]
      rw [hl] at hn
      subst hn
      exact kwrite3 h i _ hp hl hby hX hcx hUX hPl _ rfl rfl
    · rw [if_pos hl]
      refine (kwrite2 h i n hp (by omega)).mono ?_
      rintro ex w' ⟨rfl, hb⟩
      exact ⟨rfl, DoesN.same h hb⟩
  · rw [if_pos hp]
    refine (kwrite1 h i _ n rfl hp).mono ?_
    rintro ex w' ⟨rfl, hb⟩
    exact ⟨rfl, DoesN.same h hb⟩
end Go.Proofs.Ythnadkdfgckijaa.Pure
namespace Go.Proofs.Ythnadkdfgckijaa.Pure
open Go.RowKit Go.Proofs.Ythnadkdfgckijaa Go.Proofs.Ythnadkdfgckijaa.PAll Go.Proofs.Ythnadkdfgckijaa.Mem Go.Proofs.YthnadkdfgckijaaW.PrintWords Go.Proofs.YthnadkdfgckijaaW.PrintLast Go.Proofs.YthnadkdfgckijaaW.PrintMore
set_option linter.unusedVariables false
set_option linter.unusedSimpArgs false
set_option linter.unusedSectionVars false

/-- Arm, as the document says. -/
def armS (s : DS) (n : Int) (ps : List Int) : Int × DS := if s.off = true then (5, s) else if n < 0 then (1, s) else (0, { s with armed := n, picks := ps })
theorem DK.toR {w : World} {g : Nat} {U : Nat → Prop} {s : DS} (h : DK w g U s) : DKR w g U (fun _ => False) s := by
  obtain ⟨lt, ug, pen, pos, A, Ak, c, ck, vP, FB, FW, FK, h1, h2, h3, h4, h5, h6, h7, h8⟩ := h
  exact ⟨lt, ug, pen, pos, A, Ak, c, ck, vP, FB, FW, FK, h1, h2, h3, h4, h5, h6, h7, h8, fun k q => q.elim, ⟨fun k _ q => q, fun q => q, fun k _ q => q⟩⟩
theorem DoesN.does {w w' : World} {g : Nat} {U : Nat → Prop} {s : DS} (h : DoesN w w' g U (fun _ => False) s) : Does w w' g U s := by
  obtain ⟨hf, U', h1, h2⟩ := h
  exact ⟨hf.mono (fun k q => q.1), U', h1.toDK, h2⟩
theorem own_F2 {w : World} {base c : Nat} {A : Option Addr} {l : List Int} (h : Own w base A c l) : Kd.F (Kd.int .u8) w (OwnF A l) A l.length l := own_F h
set_option maxRecDepth 100000 in
set_option maxHeartbeats 16000000 in
theorem kr_arm {w : World} {g : Nat} {U R : Nat → Prop} {s : DS} (hD : DKR w g U R s) (n : Int) {UX : Nat → Prop} {Ax : Option Addr} {nx cx : Nat} {ps : List Int} (hX : Kd.F (Kd.int .u8) w UX Ax nx ps) (hnx : nx ≤ 140737488351232) (r : Int) (s' : DS) (hr : armS s n ps = (r, s')) : Calls Try.prog 29 #[.pointer (some ⟨g, 0, none⟩), .int .i64 n, .slice Ax nx cx] w fun e w' => e = .returned (.int .i64 r) ∧ DoesN w w' g U R s' := by
  have D0 := Aside0.mk hD
  have X0 := Aside0.mk hX
  have NX := Aside0.mk hnx
  have NL := Aside0.mk (Kd.F_now hX).1
  obtain ⟨cv, hcv⟩ : ∃ c : Int, c = (if s.off = true then (5 : Int) else 0) := ⟨_, rfl⟩
  have CV := Aside0.mk hcv
  unfold armS at hr
  cases ho : s.off with
  | true =>
    rw [if_pos ho] at hr hcv
    injection hr with hr1 hr2
    subst hr1 hr2 hcv
    clear hD hX hnx ho
    go_enter Try.func29, Try.ntmps29
    go_wp2_with fail
    refine (dk_can D0.out.toDK).mono ?_
    rintro e w1 ⟨rfl, hb⟩
    rw [← CV.out]
    have S1 := Aside0.mk (DoesN.same D0.out hb)
    clear hb
    go_wp2_with fail
    go_ret
    exact ⟨rfl, S1.out⟩
  | false =>
    rw [if_neg (by rw [ho]; decide)] at hr hcv
    subst hcv
    by_cases hn : n < 0
    · rw [if_pos hn] at hr
      injection hr with hr1 hr2
      subst hr1 hr2
      have e1 : decide (n < 0) = true := decide_eq_true hn
      clear hD hX hnx ho
      go_enter Try.func29, Try.ntmps29
      go_wp2_with fail
      refine (dk_can D0.out.toDK).mono ?_
      rintro e w1 ⟨rfl, hb⟩
      rw [← CV.out]
      have S1 := Aside0.mk (DoesN.same D0.out hb)
      clear hb
      go_wp2_with fail
      go_ret
      exact ⟨rfl, S1.out⟩
    · rw [if_neg hn] at hr
      injection hr with hr1 hr2
      subst hr1
      have e1 : decide (n < 0) = false := decide_eq_false hn
      have HR2 := Aside0.mk hr2
      clear hD hX hnx ho hn hr2
      go_enter Try.func29, Try.ntmps29
      go_wp2_with fail
      refine (dk_can D0.out.toDK).mono ?_
      rintro e w1 ⟨rfl, hb⟩
      rw [← CV.out]
      have D1 := Aside0.mk (D0.out.below hb)
      have X1 := Aside0.mk (Kd.F_below X0.out hb)
      have B1 := Aside0.mk hb
      clear hb
      go_wp2_with fail
      refine (clone_u (Kd.F_now X1.out) NX.out).mono ?_
      rintro e w2 ⟨Y, d, rfl, hO, hb⟩
      have OO := Aside0.mk hO
      have B2 := Aside0.mk hb
      have D2 := Aside0.mk (D1.out.below hb)
      obtain ⟨lt, ug, pen, pos, A, Ak, c, ck, vP, FB, FW, FK, h1, h2, h3, h4, h5, h6, h7, h8, rl, h9⟩ := D2.out
      have H2 := Aside0.mk h1
      have f4 := blk_frozen h1 4
      have b4 := blk_set h1 4 (.int .i64 n)
      have f5 := blk_frozen b4 5
      have B4 := Aside0.mk b4
      obtain ⟨z0, z1, z2, z3, z4, z5⟩ := dk_cells h1
      obtain ⟨y0, y1, y2, y3, y4, y5⟩ := six_cells (show (w2.setCell ⟨g, 4, none⟩ (.int .i64 n)).heap[g]? = some (.cells #[.slice A s.B.length c, vP, .bool s.off, .int .i64 s.ops, .int .i64 n, .slice Ak s.picks.length ck] 55 (0, 0)) from b4)
      have REST := Aside0.mk (And.intro lt (And.intro ug (And.intro pen (And.intro pos (And.intro h2 (And.intro h3 (And.intro h6 (And.intro h7 (And.intro rl h9)))))))))
      have LT1 := Aside0.mk (show ∀ k, U k → k < w1.heap.size from D1.out.lt)
      clear lt ug pen pos h1 h2 h3 h4 h5 h6 h7 h8 rl h9 hO hb b4 z0 z1 z2 z3 y0 y1 y2 y3 y4
      go_wp2_with fail
      go_ret
      obtain ⟨lt, ug, pen, pos, h2, h3, h6, h7, rl, h9⟩ := REST.out
      have ff : Fr (· = g) w2 ((w2.setCell ⟨g, 4, none⟩ (.int .i64 n)).setCell ⟨g, 5, none⟩ (.slice Y nx d)) := ((Fr.refl (fun x => x = g) w2).set (p := ⟨g, 4, none⟩) rfl _).set (p := ⟨g, 5, none⟩) rfl _
      have O2 : Own ((w2.setCell ⟨g, 4, none⟩ (.int .i64 n)).setCell ⟨g, 5, none⟩ (.slice Y nx d)) w1.heap.size Y d ps := own_fr OO.out ff (fun q hp hA e => by
        have := (own_lt OO.out q hp hA).1
        have := LT1.out g ug
        have e' : q = g := e
        omega)
      have b5 := blk_set B4.out 5 (.slice Y nx d)
      refine ⟨rfl, ((Fr.of_below B1.out).then_ (Fr.of_below B2.out)).then_ (ff.mono (fun k e => e ▸ ⟨ug, h9.2.1⟩)), fun k => U k ∨ OwnF Y ps k, ?_, fun k q => q.imp id (fun z => Nat.le_trans B1.out.size (ownF_lt O2 k z).1)⟩
      rw [← HR2.out]
      refine ⟨fun k hk => ?_, .inl ug, pen, pos, A, Y, c, d, vP, FB, FW, OwnF Y ps, ?_, h2.fr ff (fun k hk e => (h6 k hk).2 e), Kd.R_step h3 (fun k hk hlt => ff.block k hlt (h7 k hk).2.1), own_F O2, O2.cap, fun k hk => ⟨.inl (h6 k hk).1, (h6 k hk).2⟩, fun k hk => ⟨.inl (h7 k hk).1, (h7 k hk).2⟩, fun k hk => ?_, fun k q => .inl (rl k q), h9⟩
      · rcases hk with q | q
        · exact Nat.lt_of_lt_of_le (lt k q) ff.size
        · exact (ownF_lt O2 k q).2
      · refine Eq.trans ?_ (b5.trans ?_)
        · rfl
        · rw [← NL.out]
          rfl
      · have := (ownF_lt O2 k hk).1
        refine ⟨.inr hk, fun e => ?_, fun q => ?_, fun q => ?_⟩
        · have := LT1.out g ug; omega
        · have := LT1.out k (h6 k q).1; omega
        · have := LT1.out k (h7 k q).1; omega
end Go.Proofs.Ythnadkdfgckijaa.Pure
namespace Go.Proofs.Ythnadkdfgckijaa.Pure
open Go.RowKit Go.Proofs.Ythnadkdfgckijaa Go.Proofs.Ythnadkdfgckijaa.PAll Go.Proofs.Ythnadkdfgckijaa.Mem Go.Proofs.YthnadkdfgckijaaW.PrintWords Go.Proofs.YthnadkdfgckijaaW.PrintLast Go.Proofs.YthnadkdfgckijaaW.PrintMore
set_option linter.unusedVariables false
set_option linter.unusedSimpArgs false
set_option linter.unusedSectionVars false

set_option maxRecDepth 100000 in
set_option maxHeartbeats 16000000 in
/-- A row of what is pending, copied; its inner rows are shared. -/
theorem clone_wi {w : World} {v : Value} {FW : Nat → Prop} {P : List (Int × List Int)} (h : Kd.R kW 101 w 0 FW v P) (hF : ∀ k, FW k → k < w.heap.size) (hP : P.length ≤ 1000000) :
    Calls Try.prog 65 #[v] w fun e w' => ∃ v', e = .returned v' ∧ Kd.R kW 101 w' 0 (fun k => (FW k ∧ some k ≠ v.ownBlock) ∨ w.heap.size ≤ k) v' P ∧ Below w.heap.size w w' := by
  obtain ⟨hok, inner, hown, hr⟩ := h
  obtain ⟨A, c, rfl, hc, hrow⟩ := OwnRow.reads ⟨inner, hown, hr⟩
  have HROW := Aside0.mk hrow
  have HF := Aside0.mk hF
  have HPP := Aside0.mk hP
  have HB := Aside0.mk (Below.refl w.heap.size w)
  clear hok hown hr hc hrow hF hP
  have ke := fun (w : World) (n c : Nat) => Lib.run_eql_slice_nil (P := Try.prog) w 53 101 A n c 0 0 Try.underlying53
  cases A with
  | none =>
    have h0 : P.length = 0 := by
      rcases Nat.eq_zero_or_pos P.length with h | h
      · exact h
      · obtain ⟨ad, e, _⟩ := HROW.out.2.2 h
        cases e
    have h1 : P = [] := List.eq_nil_of_length_eq_zero h0
    subst h1
    go_enter Try.func65, Try.ntmps65
    go_wp2
    go_ret
    exact ⟨_, rfl, Kd.R_nil _ _ _ _ _, Below.refl _ _⟩
  | some ad =>
    go_enter Try.func65, Try.ntmps65
    go_wp2_with ((with_reducible refine gate_builtin (b := .append) (xs := #[.tmp 5, .tmp 6]) rfl ?_); at_builtin; refine Kd.R_append_rows kW (Rr := kW.M w 0 fun k => FW k ∧ some k ≠ (Value.slice (some ad) P.length c).ownBlock) (w0 := w) (W := w.alloc (.cells #[] 101)) 0 (by rfl) (.tmp 5) (.tmp 6) 53 101 (.agg #[.int .i64 0, .slice none 0 0]) 32 rfl Try.underlying53 info101 rfl (by decide) (by decide) (.slice (some ⟨w.heap.size, 0, none⟩) 0 0) ([] : List (Int × List Int)) P (some ad) P.length c (fun k => (FW k ∧ some k ≠ (Value.slice (some ad) P.length c).ownBlock) ∨ w.heap.size ≤ k) (fun k => FW k ∧ some k ≠ (Value.slice (some ad) P.length c).ownBlock) rfl rfl ?aO ?aR ?aM ?aK ?aQ ?aB ?aS ?aL ?_)
    case aO => exact ⟨fun k hk => .inr (by cases hk; exact Nat.le_refl _), [], World.ownsRow_made w #[] 0 (Nat.zero_le _) (by unfold maxLen; omega) rfl, Reps.none _ _⟩
    case aR => exact HROW.out.imp_ ((Below.refl _ _).alloc (Nat.le_refl _) _) (fun _ _ h => h)
    case aM => exact fun x cs h => kW.M_move (fun k hk => Below.heap_alloc _ _ _ (HF.out k hk.1)) h
    case aK => exact fun k hk => ⟨.inl hk, fun e => by cases e; exact Nat.lt_irrefl _ (HF.out _ hk.1)⟩
    case aQ => exact fun k hk => .inr (by simp at hk; omega)
    case aB => exact (HB.out.alloc (Nat.le_refl _) _).mono (Nat.zero_le _)
    case aS => exact Nat.zero_le _
    case aL => have := HPP.out; simp; omega
    intro v1 w1 ho hb hg hat
    have HO := Aside0.mk ho
    have HG := Aside0.mk (show Below w.heap.size w w1 from (HB.out.alloc (Nat.le_refl _) _).grown hg (by simp) (fun j e => by cases e; exact Nat.le_refl _))
    clear ho hb hg hat
    go_wp2
    go_ret
    exact ⟨_, rfl, HO.out, HG.out⟩
def rowsC (gs cs : Nat → Nat) (k : Nat) : List Value := (List.range k).map (fun i => .slice (some ⟨gs i, 0, none⟩) 256 (cs i))
theorem rowsC_next (gs cs : Nat → Nat) (k x d : Nat) : rowsC gs cs k ++ [.slice (some ⟨x, 0, none⟩) 256 d] = rowsC (fun i => if i < k then gs i else x) (fun i => if i < k then cs i else d) (k + 1) := by
  unfold rowsC
  rw [List.range_succ, List.map_append]
  congr 1
  · apply List.map_congr_left
    intro i hi
    show _ = Value.slice (some ⟨if i < k then gs i else x, 0, none⟩) 256 (if i < k then cs i else d)
    rw [if_pos (List.mem_range.1 hi), if_pos (List.mem_range.1 hi)]
  · simp
/-- A clone while its blocks are laid. -/
structure ClR (w0 w' : World) (gx : Nat) (B : List (List Int)) (v1 v2 v3 v4 v5 : Value) (k : Nat) : Prop where
  out : ∃ (v : Value) (gs cs : Nat → Nat), w'.heap[gx]? = some (.cells #[v, v1, v2, v3, v4, v5] 55 (0, 0)) ∧ w'.ownsRow w0.heap.size 26 1 v k (rowsC gs cs k) ∧
    (∀ i, i < k → w0.heap.size ≤ gs i ∧ 256 ≤ cs i ∧ ∃ bc : List Value, w'.heap[gs i]? = some (.cells bc.toArray 5 (0, 0)) ∧ bc.take 256 = encs (Value.int .u8) (B.getD i [])) ∧ (∀ i j, i < k → j < k → gs i = gs j → i = j)
  below : Below w0.heap.size w0 w'
theorem ClR.step {w0 W wn w1 : World} {gx k : Nat} {B : List (List Int)} {u1 u2 u3 u4 u5 v v1 : Value} {gs cs : Nat → Nat} (hgx : w0.heap.size ≤ gx) (h1 : W.heap[gx]? = some (.cells #[v, u1, u2, u3, u4, u5] 55 (0, 0))) (h2 : W.ownsRow w0.heap.size 26 1 v k (rowsC gs cs k))
    (h3 : ∀ i, i < k → w0.heap.size ≤ gs i ∧ 256 ≤ cs i ∧ ∃ bc : List Value, W.heap[gs i]? = some (.cells bc.toArray 5 (0, 0)) ∧ bc.take 256 = encs (Value.int .u8) (B.getD i [])) (h4 : ∀ i j, i < k → j < k → gs i = gs j → i = j) (hb : Below w0.heap.size w0 W) (hbn : Below W.heap.size W wn)
    {gY d : Nat} {b : List Int} (hO : Own wn W.heap.size (some ⟨gY, 0, none⟩) d b) (hbl : b.length = 256) (hbe : b = B.getD k [])
    (ho : w1.ownsRow w0.heap.size 26 1 v1 (k + 1) (rowsC gs cs k ++ [.slice (some ⟨gY, 0, none⟩) 256 d])) (hb1 : Below w0.heap.size w0 w1) (hg : wn.grownBy w1 v.ownBlock) :
    w1.cell? ⟨gx, 0, none⟩ = some v ∧ w1.frozen? ⟨gx, 0, none⟩ = false ∧ ClR w0 (w1.setCell ⟨gx, 0, none⟩ v1) gx B u1 u2 u3 u4 u5 (k + 1) := by
  have hrow : ∀ q, v.ownBlock = some q → ∃ cur : Array Value, W.heap[q]? = some (.cells cur 26 (0, 0)) := fun q hq => by
    rcases h2.2 with ⟨rfl, _⟩ | ⟨g, cap, cur, rfl, _, hh, _⟩
    · cases hq
    · cases hq; exact ⟨cur, hh⟩
  have keep : ∀ (q : Nat) (cs : Array Value) (t : Nat), t ≠ 26 → W.heap[q]? = some (.cells cs t (0, 0)) → w1.heap[q]? = some (.cells cs t (0, 0)) := fun q cs t ht hq => by
    have hlt := blk_lt hq
    refine (hg.block q (Nat.lt_of_lt_of_le hlt hbn.size) (fun e => ?_)).trans ((hbn.block q hlt).trans hq)
    obtain ⟨cur, hc⟩ := hrow q e.symm
    rw [hq] at hc
    injection hc with hc
    injection hc with _ hc
    exact ht hc
  have k1 := keep gx _ 55 (by decide) h1
  obtain ⟨g', bc, e1, e2, e3, e4⟩ := hO.blk (by omega)
  injection e1 with e1
  injection e1 with e1
  subst e1
  have hnew : w1.heap[gY]? = some (.cells bc.toArray 5 (0, 0)) := by
    refine (hg.block gY (blk_lt e3) (fun e => ?_)).trans e3
    obtain ⟨cur, hc⟩ := hrow _ e.symm
    have := blk_lt hc
    omega
  have hne1 : ∀ q cs t, t ≠ 55 → w1.heap[q]? = some (.cells cs t (0, 0)) → q ≠ gx := fun q cs t ht hq e => by
    subst e
    rw [k1] at hq
    injection hq with hq
    injection hq with _ hq
    exact ht hq.symm
  have set : ∀ q, q ≠ gx → (w1.setCell ⟨gx, 0, none⟩ v1).heap[q]? = w1.heap[q]? := fun q hq => Below.heap_setCell w1 _ v1 q hq
  refine ⟨by rw [blk_cell k1]; rfl, blk_frozen k1 0, ⟨v1, fun i => if i < k then gs i else gY, fun i => if i < k then cs i else d, ?_, ?_, fun i hi => ?_, fun i j hi hj hij => ?_⟩, hb1.setCell (p := ⟨gx, 0, none⟩) hgx v1⟩
  · have := blk_set k1 0 v1
    simpa using this
  · rw [← rowsC_next]
    refine ho.kept (row := some gx) (grownBy_setCell' _ _ _) (.inr fun e => ?_)
    rcases ho.2 with ⟨rfl, h0⟩ | ⟨g, cap, cur, rfl, _, hh, _⟩
    · omega
    · cases e
      exact hne1 _ _ _ (by decide) hh rfl
  · dsimp only
    by_cases hik : i < k
    · rw [if_pos hik, if_pos hik]
      obtain ⟨q1, q2, bc', q3, q4⟩ := h3 i hik
      have q := keep _ _ 5 (by decide) q3
      exact ⟨q1, q2, bc', (set _ (hne1 _ _ _ (by decide) q)).trans q, q4⟩
    · rw [if_neg hik, if_neg hik]
      have e : i = k := by omega
      subst e
      exact ⟨Nat.le_trans hb.size e2, by have := hO.cap; omega, bc, (set _ (hne1 _ _ _ (by decide) hnew)).trans hnew, by rw [← hbe, ← hbl]; exact e4⟩
  · dsimp only at hij
    have old : ∀ q, q < k → gs q < W.heap.size := fun q hq => by obtain ⟨_, _, bc', q3, _⟩ := h3 q hq; exact blk_lt q3
    by_cases hik : i < k
    · by_cases hjk : j < k
      · rw [if_pos hik, if_pos hjk] at hij
        exact h4 i j hik hjk hij
      · rw [if_pos hik, if_neg hjk] at hij
        have := old i hik; omega
    · by_cases hjk : j < k
      · rw [if_neg hik, if_pos hjk] at hij
        have := old j hjk; omega
      · omega
/-- A clone's blocks, once laid. -/
theorem ClR.rows {w0 w' : World} {gx n : Nat} {B : List (List Int)} {u1 u2 u3 u4 u5 : Value} (h : ClR w0 w' gx B u1 u2 u3 u4 u5 n) (hn : n = B.length) (hp : 0 < n) (hB : BlkOk B) : ∃ A c, w'.heap[gx]? = some (.cells #[.slice A n c, u1, u2, u3, u4, u5] 55 (0, 0)) ∧ RowsAt w' A c (fun k => (w0.heap.size ≤ k ∧ k < w'.heap.size) ∧ k ≠ gx) B := by
  obtain ⟨⟨v, gs, cs, h1, h2, h3, h4⟩, hb⟩ := h
  rcases h2.2 with ⟨rfl, h0⟩ | ⟨g, cap, cur, rfl, hgb, hh, hc, _, _, ht⟩
  · omega
  have hgne : g ≠ gx := fun e => by subst e; rw [h1] at hh; injection hh with hh; injection hh with _ hh; exact absurd hh (by decide)
  refine ⟨some ⟨g, 0, none⟩, cap, h1, hB, g, gs, cs, cur.toList, rfl, by rw [← hn]; exact hc, ⟨⟨hgb, blk_lt hh⟩, hgne⟩, hh, fun i hi => ?_, fun i j hi hj => h4 i j (hn ▸ hi) (hn ▸ hj)⟩
  obtain ⟨q1, q2, bc, q3, q4⟩ := h3 i (hn ▸ hi)
  refine ⟨?_, q2, ⟨⟨q1, blk_lt q3⟩, fun e => ?_⟩, fun e => ?_, bc, q3, q4⟩
  · have := congrArg (fun l => l[i]?) ht
    simp only [Nat.mul_one] at this
    rw [List.getElem?_take, if_pos (hn ▸ hi)] at this
    rw [this]
    unfold rowsC
    rw [List.getElem?_map, List.getElem?_range (hn ▸ hi)]
    rfl
  · rw [e, h1] at q3; injection q3 with q; injection q with _ q; exact absurd q (by decide)
  · rw [e, hh] at q3; injection q3 with q; injection q with _ q; exact absurd q (by decide)
theorem nb_ne {n : Nat} (h : 0 < n) : ((n : Int) == 0) = false := by
  have : (n : Int) ≠ 0 := by omega
  simpa using this
set_option maxRecDepth 100000 in
set_option maxHeartbeats 16000000 in
theorem n_clone {w : World} {g : Nat} {s : DS} {V : Nat → Prop} (h : Dk w g s V) (hPl : s.P.length ≤ 1000000) (hK : s.picks.length ≤ 140737488351232) (hBl : s.B.length ≤ 1000000) : Calls Try.prog 34 #[.pointer (some ⟨g, 0, none⟩)] w fun e w' => ∃ gc U R, e = .returned (.pointer (some ⟨gc, 0, none⟩)) ∧ DKR w' g U R s ∧ (∀ k, U k → V k) ∧ (∃ Uc, DK w' gc Uc s ∧ ∀ k, Uc k → w.heap.size ≤ k ∨ R k) ∧ Below w.heap.size w w' := by
  obtain ⟨U, hD, hUV⟩ := h
  have UV := Aside0.mk hUV
  have D0 := Aside0.mk hD
  have PL := Aside0.mk hPl
  have KL := Aside0.mk hK
  have BL := Aside0.mk hBl
  obtain ⟨NB, hNB⟩ : ∃ n, n = s.B.length := ⟨_, rfl⟩
  have HNB := Aside0.mk hNB
  have e0 := nb_ne (n := NB) (hNB ▸ hD.pos)
  clear hUV hD hPl hK hBl hNB
  go_enter Try.func34, Try.ntmps34
  go_wp2_with fail
  refine (dk_len D0.out).mono ?_
  rintro e w1 ⟨rfl, hb⟩
  rw [← HNB.out]
  have B1 := Aside0.mk hb
  have D1 := Aside0.mk (D0.out.below hb)
  obtain ⟨lt, ug, pen, pos, A, Ak, c, ck, vP, FB, FW, FK, h1, h2, h3, h4, h5, h6, h7, h8⟩ := D1.out
  obtain ⟨AP, cP, rfl, hcP, hPF⟩ := R_own h3
  obtain ⟨gB, x0, cx0, rfl, _, _, _, _, _, _⟩ := row_read h2 (k := 0) pos
  have H1 := Aside0.mk h1
  have H2 := Aside0.mk h2
  have H3 := Aside0.mk h3
  have H4 := Aside0.mk h4
  have REST := Aside0.mk (And.intro lt (And.intro ug (And.intro pen (And.intro pos (And.intro h5 (And.intro h6 (And.intro h7 h8)))))))
  obtain ⟨np, hnp⟩ : ∃ n, n = s.P.length := ⟨_, rfl⟩
  obtain ⟨nk, hnk⟩ : ∃ n, n = s.picks.length := ⟨_, rfl⟩
  have HNP := Aside0.mk hnp
  have HNK := Aside0.mk hnk
  obtain ⟨z0, z1, z2, z3, z4, z5⟩ := dk_cells h1
  rw [← HNB.out] at z0
  rw [← hnp] at z1
  rw [← hnk] at z5
  clear hb lt ug pen pos h1 h2 h3 h4 h5 h6 h7 h8 hcP hPF hnp hnk
  have XB := Aside0.mk ((Below.refl w1.heap.size w1).alloc (Nat.le_refl _) (.cells #[.slice none 0 0, .slice AP np cP, .bool s.off, .int .i64 s.ops, .int .i64 s.armed, .slice Ak nk ck] 55))
  have XN := Aside0.mk (heap_new w1 (.cells #[.slice none 0 0, .slice AP np cP, .bool s.off, .int .i64 s.ops, .int .i64 s.armed, .slice Ak nk ck] 55))
  have XO := (heap_new w1 (.cells #[.slice (some ⟨gB, 0, none⟩) NB c, .slice AP np cP, .bool s.off, .int .i64 s.ops, .int .i64 s.armed, .slice Ak nk ck] 55))
  have ff := blk_frozen XO 0
  have fc := (six_cells XO).1
  have q0 : (w1.alloc (.cells #[.slice none 0 0, .slice AP np cP, .bool s.off, .int .i64 s.ops, .int .i64 s.armed, .slice Ak nk ck] 55)).cell? ⟨g, 0, none⟩ = some (.slice (some ⟨gB, 0, none⟩) NB c) := pw_cell_below XB.out z0
  clear XO
  go_wp2_with fail
  obtain ⟨w3, hw3⟩ : ∃ y, y = w1.alloc (.cells #[.slice none 0 0, .slice AP np cP, .bool s.off, .int .i64 s.ops, .int .i64 s.armed, .slice Ak nk ck] 55) := ⟨_, rfl⟩
  obtain ⟨gx, hgx⟩ : ∃ y, y = w1.heap.size := ⟨_, rfl⟩
  have GX := Aside0.mk (show w1.heap.size ≤ gx from Nat.le_of_eq hgx.symm)
  have C0 := Aside0.mk (show ClR w1 w3 gx s.B (.slice AP np cP) (.bool s.off) (.int .i64 s.ops) (.int .i64 s.armed) (.slice Ak nk ck) 0 from by
    rw [hw3, hgx]
    exact ⟨⟨.slice none 0 0, fun _ => 0, fun _ => 0, XN.out, World.ownsRow_nil _ _ _ _, fun i hi => absurd hi (Nat.not_lt_zero _), fun i j hi => absurd hi (Nat.not_lt_zero _)⟩, XB.out⟩)
  rw [← hw3, ← hgx]
  clear hw3 hgx XB XN ff fc q0 z0 z1 z2 z3 z4 z5 e0
  go_loopg [18] NB (fun q v w' => ∃ (k : Nat), v = .int .i64 (k : Int) ∧ Aside0 (k + q = NB) ∧ Aside0 (ClR w1 w' gx s.B (.slice AP np cP) (.bool s.off) (.int .i64 s.ops) (.int .i64 s.armed) (.slice Ak nk ck) k))
  case atStart => exact ⟨0, rfl, ⟨Nat.zero_add _⟩, C0⟩
  case round =>
    clear C0
    obtain ⟨k, rfl, HJ, CC⟩ := hrel
    by_cases hlt : k < NB
    case pos =>
      have hgd : decide ((k : Int) < (NB : Int)) = true := (di_t hlt).1
      have hgd2 : decide (k < NB) = true := (di_t hlt).2
      have HN1 := Aside0.mk (st_n HJ.out hlt).1
      have HM := Aside0.mk (st_n HJ.out hlt).2
      have HLT := Aside0.mk hlt
      have HV := Aside0.mk (stepv hlt (by have := HNB.out; have := BL.out; omega))
      have hkB : k < s.B.length := HNB.out ▸ hlt
      obtain ⟨⟨v, gs, cs, p1, p2, p3, p4⟩, pb⟩ := CC.out
      obtain ⟨gB', x, cx, eA, _, _, y0, y1, hC, y3⟩ := row_read (H2.out.below pb) hkB
      injection eA with eA
      injection eA with eA
      subst eA
      obtain ⟨b, hbb⟩ : ∃ b, b = s.B.getD k [] := ⟨_, rfl⟩
      rw [← hbb] at hC y3
      have HBB := Aside0.mk hbb
      obtain ⟨Av, cv, rfl, _⟩ := own_slice p2
      have P1 := Aside0.mk p1
      have P2 := Aside0.mk p2
      have P3 := Aside0.mk p3
      have P4 := Aside0.mk p4
      have PB := Aside0.mk pb
      have YL := Aside0.mk y3
      have YC := Aside0.mk y1
      have XC := Aside0.mk (show Kd.C (Kd.int .u8) wr.drew (some ⟨x, 0, none⟩) b.length b from by rw [y3]; exact Kd.C_drew hC)
      have z0 : wr.cell? ⟨gx, 0, none⟩ = some (.slice Av k cv) := (six_cells p1).1
      clear p1 p2 p3 p4 pb hbb hC y1 y3 hkB
      go_wp2_with fail
      go_region_law (first
        | (refine goes_ Try.func55 (by kernel_rfl) rfl #[.slice (some ⟨x, 0, none⟩) 256 cx] (by rfl) rfl rfl (by (try simp only [List.map_toArray, List.map_cons, List.map_nil]); first | done | rfl) ?_; refine (clone_o XC.out YL.out YC.out (by decide)).mono ?_; rintro e wn ⟨Y, yd, rfl, hO, hbn⟩; refine ⟨_, rfl, ?_⟩; obtain ⟨gY, cur, rfl, _, _, _⟩ := hO.blk (by rw [YL.out]; decide); have BN := Aside0.mk (show Below wr.heap.size wr wn from (below_drew (Below.refl wr.heap.size wr)).trans hbn); have OO := Aside0.mk (show Own wn wr.heap.size (some ⟨gY, 0, none⟩) yd b from hO); have u0 := pw_cell_below BN.out z0; have u1 : (wn.alloc (.cells #[.slice (some ⟨gY, 0, none⟩) 256 yd] 26)).cell? ⟨gx, 0, none⟩ = some (.slice Av k cv) := pw_cell_below ((Below.refl wn.heap.size wn).alloc (Nat.le_refl _) _) u0; clear hO hbn)
        | (refine step_append_cells (W := wn) (w0 := w1) w1.heap.size (by rfl) (.tmp 23) (.tmp 26) 52 26 (.slice none 0 0) 1 24 rfl Try.underlying52 info26 rfl (by decide) (by decide) (.slice Av k cv) k (rowsC gs cs k) [.slice (some ⟨gY, 0, none⟩) 256 yd] rfl rfl rfl (by intro u hu; rw [List.mem_singleton.1 hu]; rfl) (pw_own_below P2.out BN.out) (PB.out.trans (BN.out.mono PB.out.size)) (Nat.le_trans PB.out.size BN.out.size) (by have := HLT.out; have := HNB.out; have := BL.out; omega) ?_; intro v1 w2 ho hb hg hat; obtain ⟨A1, c1, rfl, _⟩ := own_slice ho; have ST := Aside0.mk (ClR.step GX.out P1.out P2.out P3.out P4.out PB.out BN.out OO.out YL.out HBB.out ho hb hg); clear ho hb hg hat u0 u1; have k0 := ST.out.1; have l0 := ST.out.2.1))
      all_goals
        go_wp2_with fail
        go_roundg (gk - 1)
        case measure => exact HM.out
        case rel => exact ⟨k + 1, by first | exact HV.out | rfl, HN1, ⟨ST.out.2.2⟩⟩
    have hke : k = NB := en_k HJ.out hlt
    clear hlt
    subst hke
    obtain ⟨hgd, hgd2⟩ := di_f (rfl : k = k)
    obtain ⟨Ax, cx, p1, p2⟩ := CC.out.rows HNB.out (by rw [HNB.out]; exact REST.out.2.2.2.1) H2.out.ok
    have XH := Aside0.mk p1
    have XR := Aside0.mk p2
    have CB := Aside0.mk CC.out.below
    have LTU := Aside0.mk REST.out.1
    have FWl := Aside0.mk (show ∀ q, FW q → q < w1.heap.size from fun q hq => REST.out.1 q (REST.out.2.2.2.2.2.2.1 q hq).1)
    have RP := Aside0.mk (Kd.R_drew (Kd.R_below H3.out CB.out))
    have FK4 := Aside0.mk (Kd.F_drew (Kd.F_below H4.out CB.out))
    obtain ⟨_, z1, _, _, _, z5⟩ := dk_cells ((CB.out.block _ (blk_lt H1.out)).trans H1.out)
    rw [← HNP.out] at z1
    rw [← HNK.out] at z5
    clear p1 p2 CC
    go_wp2_with fail
    go_region_law (first
      | (refine goes_ Try.func65 (by kernel_rfl) rfl #[.slice AP np cP] (by rfl) rfl rfl (by (try simp only [List.map_toArray, List.map_cons, List.map_nil]); first | done | rfl) ?_; refine (clone_wi (w := wr.drew) (by rw [HNP.out]; exact RP.out) (fun q hq => Nat.lt_of_lt_of_le (FWl.out q hq) CB.out.size) PL.out).mono ?_; rintro e wa ⟨v', rfl, hR, hb⟩; obtain ⟨A1, c1, hv, _, _⟩ := R_own hR; rw [← HNP.out] at hv; subst hv; refine ⟨_, rfl, ?_⟩; have BA := Aside0.mk (show Below wr.heap.size wr wa from (below_drew (Below.refl wr.heap.size wr)).trans hb); have RA := Aside0.mk hR; have u5 := pw_cell_below BA.out z5; clear hR hb)
      | (refine goes_ Try.func64 (by kernel_rfl) rfl #[.slice Ak nk ck] (by rfl) rfl rfl (by (try simp only [List.map_toArray, List.map_cons, List.map_nil]); first | done | rfl) ?_; refine (clone_u (w := wa) (by rw [HNK.out]; exact Kd.F_now (Kd.F_below (Kd.F_below H4.out CB.out) BA.out)) (by rw [HNK.out]; exact KL.out)).mono ?_; rintro e wb ⟨Yk, dk, rfl, hO, hb⟩; refine ⟨_, rfl, ?_⟩; have BBB := Aside0.mk hb; have OK := Aside0.mk hO; have XHB := Aside0.mk ((hb.block _ (Nat.lt_of_lt_of_le (blk_lt XH.out) BA.out.size)).trans ((BA.out.block _ (blk_lt XH.out)).trans XH.out)); have t1 := blk_frozen XHB.out 1; have t5 := blk_frozen XHB.out 5; have t1c := (six_cells XHB.out).2.1; have t5c := (six_cells XHB.out).2.2.2.2.2; clear hO hb u5 z1 z5))
    all_goals
      go_wp2_with fail
      go_ret
      obtain ⟨lt, ug, pen, pos, h5, h6, h7, h8⟩ := REST.out
      have hf : Fr (· = gx) wb ((wb.setCell ⟨gx, 1, none⟩ (.slice A1 np c1)).setCell ⟨gx, 5, none⟩ (.slice Yk nk dk)) := ((Fr.refl (fun y => y = gx) wb).set (p := ⟨gx, 1, none⟩) rfl _).set (p := ⟨gx, 5, none⟩) rfl _
      have hx5 := blk_set (blk_set XHB.out 1 (.slice A1 np c1)) 5 (.slice Yk nk dk)
      have hgx := blk_lt XH.out
      have h01 := GX.out
      have hsa := BA.out.size
      have hsb := BBB.out.size
      have hsc := CB.out.size
      have hlo := Aside0.mk (And.intro hgx (And.intro h01 (And.intro hsa (And.intro hsb hsc))))
      have Bw : Below w1.heap.size w1 ((wb.setCell ⟨gx, 1, none⟩ (.slice A1 np c1)).setCell ⟨gx, 5, none⟩ (.slice Yk nk dk)) := hf.below (CB.out.trans ((BA.out.mono hsc).trans (BBB.out.mono (Nat.le_trans hsc hsa)))) (fun q e => e ▸ h01) (Nat.le_trans hsc (Nat.le_trans hsa hsb))
      have hDR : DKR w1 g U (fun q => FW q ∧ some q ≠ (Value.slice AP s.P.length cP).ownBlock) s := ⟨lt, ug, pen, pos, _, Ak, c, ck, _, FB, FW, FK, H1.out, H2.out, H3.out, H4.out, h5, h6, h7, h8, fun q hq => (h7 q hq.1).1, ⟨fun q hq hr => (h7 q hr.1).2.2 hq, fun hr => (h7 g hr.1).2.1 rfl, fun q e hr => hr.2 e.symm⟩⟩
      rw [HNP.out] at RA
      refine ⟨gx, U, fun q => FW q ∧ some q ≠ (Value.slice AP s.P.length cP).ownBlock, rfl, hDR.below Bw, UV.out, ⟨fun q => (w1.heap.size ≤ q ∧ q < wb.heap.size) ∨ (FW q ∧ some q ≠ (Value.slice AP s.P.length cP).ownBlock), ?_, fun q hq => hq.imp (fun z => Nat.le_trans B1.out.size z.1) id⟩, B1.out.trans (Bw.mono B1.out.size)⟩
      refine ⟨fun q hq => ?_, .inl ⟨h01, Nat.lt_of_lt_of_le hgx (Nat.le_trans hsa hsb)⟩, pen, pos, Ax, Yk, cx, dk, .slice A1 np c1, fun q => (w1.heap.size ≤ q ∧ q < wr.heap.size) ∧ q ≠ gx, fun q => ((FW q ∧ some q ≠ (Value.slice AP s.P.length cP).ownBlock) ∨ wr.heap.size ≤ q) ∧ q < wa.heap.size, OwnF Yk s.picks, ?_, ((XR.out.below BA.out).below BBB.out).fr hf (fun q hq => hq.2), ?_, ?_, ?_, fun q hq => ⟨.inl ⟨hq.1.1, Nat.lt_of_lt_of_le hq.1.2 (Nat.le_trans hsa hsb)⟩, hq.2⟩, fun q hq => ?_, fun q hq => ?_⟩
      · have hz : ((wb.setCell ⟨gx, 1, none⟩ (.slice A1 np c1)).setCell ⟨gx, 5, none⟩ (.slice Yk nk dk)).heap.size = wb.heap.size := by simp
        rw [hz]
        rcases hq with z | z
        · exact z.2
        · exact Nat.lt_of_lt_of_le (FWl.out q z.1) (Nat.le_trans hsc (Nat.le_trans hsa hsb))
      · rw [← HNB.out, ← HNK.out]
        exact hx5
      · have := Kd.R_below (Kd.R_mono (Kd.R_bound RA.out) (fun q hq => (show ((FW q ∧ some q ≠ (Value.slice AP s.P.length cP).ownBlock) ∨ wr.heap.size ≤ q) ∧ q < wa.heap.size from ⟨hq.1, hq.2.2.1⟩))) BBB.out
        refine Kd.R_step (by rw [HNP.out]; exact this) (fun q hq hlt => hf.block q hlt (fun e => ?_))
        rcases hq.1 with z | z
        · have := FWl.out q z.1; omega
        · omega
      · have := own_F OK.out
        rw [← HNK.out] at this ⊢
        exact F_fr this hf (fun q hq e => by
          have := (ownF_lt OK.out q hq).1
          omega)
      · rw [← HNK.out]
        have := OK.out.cap
        rwa [← HNK.out] at this
      · rcases hq.1 with z | z
        · refine ⟨.inr z, fun e => ?_, fun y => ?_⟩
          · have := FWl.out q z.1; omega
          · have := FWl.out q z.1; have := y.1.1; omega
        · refine ⟨.inl ⟨by omega, Nat.lt_of_lt_of_le hq.2 hsb⟩, fun e => by omega, fun y => ?_⟩
          have := y.1.2; omega
      · obtain ⟨z1, z2⟩ := ownF_lt OK.out q hq
        refine ⟨.inl ⟨by omega, z2⟩, fun e => by omega, fun y => ?_, fun y => ?_⟩
        · have := y.1.2; omega
        · have := y.2; omega
end Go.Proofs.Ythnadkdfgckijaa.Pure
namespace Go.Proofs.Ythnadkdfgckijaa.Pure
open Go.RowKit Go.Proofs.Ythnadkdfgckijaa Go.Proofs.Ythnadkdfgckijaa.PAll Go.Proofs.Ythnadkdfgckijaa.Mem Go.Proofs.YthnadkdfgckijaaW.PrintWords Go.Proofs.YthnadkdfgckijaaW.PrintLast Go.Proofs.YthnadkdfgckijaaW.PrintMore
set_option linter.unusedVariables false
set_option linter.unusedSimpArgs false
set_option linter.unusedSectionVars false

set_option maxRecDepth 100000 in
theorem r_restart {w : World} {g : Nat} {U : Nat → Prop} {s : DS} (hD : DR w g U s) : Calls Try.prog 70 #[.pointer (some ⟨g, 0, none⟩)] w fun e w' => e = .returned (.int .i64 (restartS s).1) ∧ DoesR w w' g U (restartS s).2 := by
  obtain ⟨A, AP, Ak, c, cP, ck, hh, _⟩ := hD.hd
  have HH := Aside0.mk hh
  have D0 := Aside0.mk hD
  obtain ⟨z0, z1, z2, z3, z4, z5⟩ := dk_cells hh
  have f2 := blk_frozen hh 2
  have b2 := Aside0.mk (blk_set hh 2 (.bool false))
  unfold restartS
  cases ho : s.off with
  | true =>
    rw [if_pos rfl]
    rw [ho] at z2
    clear hD hh z0 z1 z3 z4 z5
    go_enter Try.func70, Try.ntmps70
    go_wp2_with fail
    go_ret
    have ff : Fr (· = g) w (w.setCell ⟨g, 2, none⟩ (.bool false)) := (Fr.refl (fun x => x = g) _).set (p := ⟨g, 2, none⟩) rfl _
    have := (D0.out.head ff (off := false) (ops := s.ops) (armed := s.armed) HH.out).1 b2.out
    exact ⟨rfl, ff.mono (fun q e => e ▸ D0.out.ug), U, this, fun q hq => .inl hq⟩
  | false =>
    rw [if_neg (by decide)]
    rw [ho] at z2
    clear hD hh z0 z1 z3 z4 z5
    go_enter Try.func70, Try.ntmps70
    go_wp2_with fail
    go_ret
    exact ⟨rfl, Fr.refl _ _, U, D0.out, fun q hq => .inl hq⟩
/-- New picks. -/
theorem DR.armed {w0 w' : World} {g : Nat} {U : Nat → Prop} {s : DS} (h : DR w0 g U s) {A AP Ak : Option Addr} {c cP ck : Nat} (h0 : w0.heap[g]? = some (hdR A AP Ak s.B.length c s.P.length cP s.off s.ops s.armed s.picks.length ck)) {n : Int} {ps : List Int} {Y : Option Addr} {d : Nat}
    (hf : Fr (· = g) w0 w') (hO : Own w' w0.heap.size Y d ps) (hh : w'.heap[g]? = some (hdR A AP Y s.B.length c s.P.length cP s.off s.ops n ps.length d)) : DoesR w0 w' g U { s with armed := n, picks := ps } := by
  have ug := h.ug
  obtain ⟨lt, _, pen, pos, A1, Ak1, c1, ck1, vP, FB, FW, FK, h1, h2, h3, h4, h5, h6, h7, h8⟩ := h
  obtain ⟨AP1, cP1, rfl, hcP, hPF⟩ := R_own h3
  rw [h1] at h0
  obtain ⟨rfl, rfl, rfl, rfl, rfl, rfl⟩ := hdR_inj h0.symm
  refine ⟨hf.mono (fun q e => e ▸ ug), fun k => U k ∨ OwnF Y ps k, ⟨fun k hk => ?_, .inl ug, pen, pos, A1, Y, c1, d, _, FB, FW, OwnF Y ps, hh, h2.fr hf (fun k hk e => (h6 k hk).2 e), Kd.R_step h3 (fun k hk hlt => hf.block k hlt (h7 k hk).2.1), own_F hO, hO.cap, fun k hk => ⟨.inl (h6 k hk).1, (h6 k hk).2⟩, fun k hk => ⟨.inl (h7 k hk).1, (h7 k hk).2⟩, fun k hk => ?_⟩, fun q hq => hq.imp id (fun z => (ownF_lt hO q z).1)⟩
  · rcases hk with q | q
    · exact Nat.lt_of_lt_of_le (lt k q) hf.size
    · exact (ownF_lt hO k q).2
  · have := (ownF_lt hO k hk).1
    refine ⟨.inr hk, fun e => ?_, fun q => ?_, fun q => ?_⟩
    · have := lt g ug; omega
    · have := lt k (h6 k q).1; omega
    · have := lt k (h7 k q).1; omega
set_option maxRecDepth 100000 in
set_option maxHeartbeats 16000000 in
theorem r_arm {w : World} {g : Nat} {U : Nat → Prop} {s : DS} (hD : DR w g U s) (n : Int) {Ax : Option Addr} {nx cx : Nat} {ps : List Int} {UX : Nat → Prop} (hX : Kd.F (Kd.int .u8) w UX Ax nx ps) (hnx : nx ≤ 140737488351232) (hUX : ∀ k, UX k → ¬ U k) : Calls Try.prog 68 #[.pointer (some ⟨g, 0, none⟩), .int .i64 n, .slice Ax nx cx] w fun e w' => e = .returned (.int .i64 (armS s n ps).1) ∧ DoesR w w' g U (armS s n ps).2 := by
  obtain ⟨A, AP, Ak, c, cP, ck, hh, _⟩ := hD.hd
  have HH := Aside0.mk hh
  have D0 := Aside0.mk hD
  obtain ⟨z0, z1, z2, z3, z4, z5⟩ := dk_cells hh
  have f4 := blk_frozen hh 4
  have b4 := blk_set hh 4 (.int .i64 n)
  have B4 := Aside0.mk b4
  unfold armS
  cases ho : s.off with
  | true =>
    rw [if_pos rfl]
    rw [ho] at z2
    clear hD hh z0 z1 z3 z4 z5 hX hUX b4 hnx
    go_enter Try.func68, Try.ntmps68
    go_wp2_with fail
    go_ret
    exact ⟨rfl, Fr.refl _ _, U, D0.out, fun q hq => .inl hq⟩
  | false =>
    rw [if_neg (by decide)]
    rw [ho] at z2
    by_cases hn : n < 0
    · rw [if_pos hn]
      have e1 : decide (n < 0) = true := decide_eq_true hn
      clear hD hh z0 z1 z3 z4 z5 hX hUX b4 hnx
      go_enter Try.func68, Try.ntmps68
      go_wp2_with fail
      go_ret
      exact ⟨rfl, Fr.refl _ _, U, D0.out, fun q hq => .inl hq⟩
    · rw [if_neg hn]
      have e1 : decide (n < 0) = false := decide_eq_false hn
      have HOF := Aside0.mk ho
      have FF := Aside0.mk (show Fr (· = g) w (w.setCell ⟨g, 4, none⟩ (.int .i64 n)) from (Fr.refl (fun x => x = g) _).set (p := ⟨g, 4, none⟩) rfl _)
      have XC := Aside0.mk (Kd.F_now (F_fr hX FF.out (fun k hk e => hUX k hk (e ▸ hD.ug))))
      have XL := Aside0.mk (Kd.F_now hX).1
      have NX := Aside0.mk hnx
      clear hD hh z0 z1 z3 z5 hX hUX b4 hnx hn
      go_enter Try.func68, Try.ntmps68
      go_wp2_with ((with_reducible refine gate_builtin (b := .append) (xs := #[.const (.slice none 0 0), .tmp 18]) rfl ?_); at_builtin; refine Kd.R_append_rows (Kd.int .u8) (w0 := w.setCell ⟨g, 4, none⟩ (.int .i64 n)) (w.setCell ⟨g, 4, none⟩ (.int .i64 n)).heap.size (by rfl) (.const (.slice none 0 0)) (.tmp 18) 26 5 (.int .u8 0) 1 rfl Try.underlying26 info5 rfl (by decide) (by decide) (.slice none 0 0) [] ps Ax nx cx (fun _ => True) (fun _ => False) rfl rfl ?aO ?aR (fun _ _ h => h) (fun _ h => h.elim) ?aF ?aB ?aS ?aL ?_)
      case aO => exact Kd.R_nil _ _ _ _ _
      case aR => exact XC.out
      case aF => exact fun _ _ => trivial
      case aB => exact Below.refl _ _
      case aS => exact Nat.le_refl _
      case aL => have := NX.out; simp; omega
      intro v1 w2 ho hb hg hat
      try rw [List.nil_append] at ho
      obtain ⟨Y, d, rfl, hO⟩ := own_of ho
      have OO := Aside0.mk hO
      have KB := Aside0.mk hb
      have H2 := Aside0.mk ((hb.block g (by first | exact blk_lt HH.out | exact blk_lt B4.out)).trans B4.out)
      have f5 := blk_frozen H2.out 5
      obtain ⟨y0, y1, y2, y3, y4, y5⟩ := six_cells (show w2.heap[g]? = some (.cells #[.slice A s.B.length c, .slice AP s.P.length cP, .bool s.off, .int .i64 s.ops, .int .i64 n, .slice Ak s.picks.length ck] 112 (0, 0)) from H2.out)
      clear ho hb hg hat hO y0 y1 y2 y3 y4
      go_wp2_with fail
      go_ret
      have ff : Fr (· = g) w (w2.setCell ⟨g, 5, none⟩ (.slice Y ps.length d)) := (FF.out.then_ (Fr.of_below (by rw [World.size_setCell]; exact KB.out))).set (p := ⟨g, 5, none⟩) rfl _
      have hsz : (w.setCell ⟨g, 4, none⟩ (.int .i64 n)).heap.size = w.heap.size := by simp
      have hgl := blk_lt HH.out
      have hA := D0.out.armed (ps := ps) (n := n) (Y := Y) (d := d) HH.out ff (own_kept (w := w2) (show Own w2 w.heap.size Y d ps from own_lower OO.out (by simp)) (fun q hp hA => Below.heap_setCell w2 _ _ q (fun e => by
        have := (own_lt OO.out q hp hA).1
        try rw [hsz] at this
        have e' : q = g := e
        omega))) (blk_set H2.out 5 _)
      rw [HOF.out] at hA
      exact ⟨rfl, hA⟩
end Go.Proofs.Ythnadkdfgckijaa.Pure
namespace Go.Proofs.Ythnadkdfgckijaa.Pure
open Go.RowKit Go.Proofs.Ythnadkdfgckijaa Go.Proofs.Ythnadkdfgckijaa.PAll Go.Proofs.Ythnadkdfgckijaa.Mem Go.Proofs.YthnadkdfgckijaaW.PrintWords Go.Proofs.YthnadkdfgckijaaW.PrintLast Go.Proofs.YthnadkdfgckijaaW.PrintMore
set_option linter.unusedVariables false
set_option linter.unusedSimpArgs false
set_option linter.unusedSectionVars false

/-- What is known behind the append. -/
theorem wrote_dr {w1 wn w3 : World} {g : Nat} {U : Nat → Prop} {s : DS} {A Ak : Option Addr} {c ck : Nat} {vP v3 : Value} {FB FW FK : Nat → Prop} {x : Int × List Int} (lt : ∀ k, U k → k < w1.heap.size) (ug : U g) (pen : PenOk s.B.length s.P) (pos : 0 < s.B.length)
    (h1 : w1.heap[g]? = some (.cells (dkCs A s.B.length c vP (.bool s.off) (.int .i64 s.ops) (.int .i64 s.armed) (.slice Ak s.picks.length ck)) 112 (0, 0))) (h2 : RowsAt w1 A c FB s.B) (hP0 : ∀ k, vP.ownBlock = some k → FW k) (h4 : Kd.F (Kd.int .u8) w1 FK Ak s.picks.length s.picks) (h5 : s.picks.length ≤ ck)
    (h6 : ∀ k, FB k → U k ∧ k ≠ g) (h7 : ∀ k, FW k → U k ∧ k ≠ g ∧ ¬ FB k) (h8 : ∀ k, FK k → U k ∧ k ≠ g ∧ ¬ FB k ∧ ¬ FW k) (hbn : Below w1.heap.size w1 wn) (hg3 : wn.grownBy w3 vP.ownBlock) (hx : 0 ≤ x.1 ∧ x.1 < (s.B.length : Int) ∧ x.2.length = 256 ∧ Bytes x.2)
    (hR3 : Kd.R kW 43 w3 0 (fun k => FW k ∨ w1.heap.size ≤ k) v3 (s.P ++ [x])) :
    w3.heap[g]? = some (.cells (dkCs A s.B.length c vP (.bool s.off) (.int .i64 s.ops) (.int .i64 s.armed) (.slice Ak s.picks.length ck)) 112 (0, 0)) ∧ Fr U w1 (w3.setCell ⟨g, 1, none⟩ v3) ∧ DR (w3.setCell ⟨g, 1, none⟩ v3) g (fun k => U k ∨ w1.heap.size ≤ k ∧ k < w3.heap.size) { s with P := s.P ++ [x] } := by
  have f3 : Fr FW w1 w3 := ⟨hg3.os.trans hbn.os, hg3.tape.trans hbn.tape, hg3.output.trans hbn.output, Nat.le_trans hbn.size hg3.size, fun k hk hn => (hg3.block k (Nat.lt_of_lt_of_le hk hbn.size) (fun e => hn (hP0 k e.symm))).trans (hbn.block k hk)⟩
  have g3 := fr_blk f3 h1 (fun q => (h7 _ q).2.1 rfl)
  have t := Fr.set (p := ⟨g, 1, none⟩) (Fr.refl (· = g) w3) rfl v3
  have hs : (w3.setCell ⟨g, 1, none⟩ v3).heap.size = w3.heap.size := by simp [World.setCell]
  have f4 : Fr U w1 (w3.setCell ⟨g, 1, none⟩ v3) := Fr.set (p := ⟨g, 1, none⟩) (f3.mono (fun k q => (h7 k q).1)) ug v3
  refine ⟨g3, f4, ⟨fun k hk => ?_, .inl ug, fun y hy => ?_, pos, A, Ak, c, ck, v3, FB, fun k => (FW k ∨ w1.heap.size ≤ k) ∧ k < w3.heap.size, FK, ?_, (h2.fr f3 (fun k q z => (h7 k z).2.2 q)).fr t (fun k q e => (h6 k q).2 e), ?_, F_fr (F_fr h4 f3 (fun k q => (h8 k q).2.2.2)) t (fun k q => (h8 k q).2.1), h5, fun k q => ⟨.inl (h6 k q).1, (h6 k q).2⟩, fun k q => ?_, fun k q => ⟨.inl (h8 k q).1, (h8 k q).2.1, (h8 k q).2.2.1, fun z => ?_⟩⟩⟩
  · rw [hs]
    rcases hk with q | q
    · exact Nat.lt_of_lt_of_le (lt k q) f3.size
    · exact q.2
  · rcases List.mem_append.1 hy with q | q
    · exact pen y q
    · rw [List.mem_singleton] at q
      rw [q]
      exact hx
  · rw [blk_set g3 1 _]
    simp
  · refine Kd.R_step (Kd.R_mono (Kd.R_bound hR3) (fun k q => ⟨q.1, q.2.2.1⟩)) (fun k q hlt => t.block k hlt (fun e => ?_))
    rcases q.1 with z | z
    · exact (h7 k z).2.1 e
    · have := blk_lt h1
      omega
  · rcases q.1 with z | z
    · exact ⟨.inl (h7 k z).1, (h7 k z).2⟩
    · refine ⟨.inr ⟨z, q.2⟩, ?_, fun y => ?_⟩
      · have := blk_lt h1
        omega
      · have := lt k (h6 k y).1
        omega
  · rcases z.1 with y | y
    · exact (h8 k q).2.2.2 y
    · have := lt k (h8 k q).1
      omega
theorem DoesR.trans {w w1 w2 : World} {g : Nat} {U U1 : Nat → Prop} {s : DS} (hf : Fr U w w1) (hU : ∀ q, U1 q → U q ∨ w.heap.size ≤ q) (h : DoesR w1 w2 g U1 s) : DoesR w w2 g U s := by
  obtain ⟨f2, U', h1, h2⟩ := h
  refine ⟨hf.trans f2 hU, U', h1, fun q hq => ?_⟩
  rcases h2 q hq with z | z
  · exact hU q z
  · exact .inr (Nat.le_trans hf.size z)
theorem r_same {w w' : World} {g : Nat} {U : Nat → Prop} {s : DS} (h : DR w g U s) (hb : Below w.heap.size w w') : DoesR w w' g U s := ⟨Fr.of_below hb, U, h.below hb, fun q hq => .inl hq⟩
theorem len_neq {n : Nat} (h : n ≠ 256) : ((n : Int) != 256) = true := by
  have : (n : Int) ≠ 256 := by omega
  simpa using this
set_option maxRecDepth 100000 in
set_option maxHeartbeats 16000000 in
theorem r_write0 {w : World} {g : Nat} {U : Nat → Prop} {s : DS} (hD : DR w g U s) (i : Int) {Ax : Option Addr} {nx cx : Nat} (r : Int) (hr : (placeS s i ≠ 0 ∧ r = placeS s i) ∨ (placeS s i = 0 ∧ nx ≠ 256 ∧ r = 31)) : Calls Try.prog 66 #[.pointer (some ⟨g, 0, none⟩), .int .i64 i, .slice Ax nx cx] w fun e w' => e = .returned (.int .i64 r) ∧ Below w.heap.size w w' := by
  obtain ⟨A, AP, Ak, c, cP, ck, hh, _⟩ := hD.hd
  obtain ⟨NB, hNB⟩ : ∃ n, n = s.B.length := ⟨_, rfl⟩
  obtain ⟨z0, z1, z2, z3, z4, z5⟩ := dk_cells hh
  rw [← hNB] at z0
  unfold placeS at hr
  rw [← hNB] at hr
  cases ho : s.off with
  | true =>
    rw [if_pos ho] at hr
    rw [ho] at z2
    have hr5 : r = 5 := by rcases hr with h | h <;> omega
    subst hr5
    clear hD hh z0 z1 z3 z4 z5 hr ho hNB
    go_enter Try.func66, Try.ntmps66
    go_wp2_with fail
    go_ret
    exact ⟨rfl, Below.refl _ _⟩
  | false =>
    rw [if_neg (by rw [ho]; decide)] at hr
    rw [ho] at z2
    by_cases hi0 : i < 0
    · rw [if_pos (.inl hi0)] at hr
      have hr5 : r = 30 := by rcases hr with h | h <;> omega
      subst hr5
      have e1 : decide (i < 0) = true := decide_eq_true hi0
      clear hD hh z1 z3 z4 z5 hr ho hNB hi0
      go_enter Try.func66, Try.ntmps66
      go_wp2_with fail
      go_ret
      exact ⟨rfl, Below.refl _ _⟩
    · have e1 : decide (i < 0) = false := decide_eq_false hi0
      by_cases hi1 : i ≥ (NB : Int)
      · rw [if_pos (.inr hi1)] at hr
        have hr5 : r = 30 := by rcases hr with h | h <;> omega
        subst hr5
        have e2 : decide (i ≥ (NB : Int)) = true := decide_eq_true hi1
        have e3 : decide ((NB : Int) ≤ i) = true := decide_eq_true hi1
        clear hD hh z1 z3 z4 z5 hr ho hNB hi0 hi1
        go_enter Try.func66, Try.ntmps66
        go_wp2_with fail
        go_ret
        exact ⟨rfl, Below.refl _ _⟩
      · rw [if_neg (by omega)] at hr
        have hr5 : r = 31 ∧ nx ≠ 256 := by rcases hr with h | h <;> omega
        obtain ⟨rfl, hnx⟩ := hr5
        have e2 : decide (i ≥ (NB : Int)) = false := decide_eq_false hi1
        have e3 : decide ((NB : Int) ≤ i) = false := decide_eq_false hi1
        have e4 := len_neq hnx
        clear hD hh z1 z3 z4 z5 hr ho hNB hi0 hi1 hnx
        go_enter Try.func66, Try.ntmps66
        go_wp2_with fail
        go_ret
        exact ⟨rfl, Below.refl _ _⟩
set_option maxRecDepth 100000 in
set_option maxHeartbeats 16000000 in
theorem r_write1 {w : World} {g : Nat} {U : Nat → Prop} {s : DS} (hD : DR w g U s) (h0 : 0 ≤ s.armed) (h1 : s.armed ≤ 9223372036854775807) (i : Int) {Ax : Option Addr} {cx : Nat} {b : List Int} (hp : placeS s i = 0) (hb : b.length = 256) (hby : Bytes b) {UX : Nat → Prop} (hX : Kd.F (Kd.int .u8) w UX Ax 256 b) (hPl : s.P.length ≤ 999999) {bg : Bool} {s2 : DS} (hgs : goesS { s with P := s.P ++ [(i, b)] } = (bg, s2)) {r : Int} (hr5 : bg = true → r = 5) (hr0 : bg = false → r = 0) :
    Calls Try.prog 66 #[.pointer (some ⟨g, 0, none⟩), .int .i64 i, .slice Ax 256 cx] w fun e w' => e = .returned (.int .i64 r) ∧ DoesR w w' g U s2 := by
  have HGS := Aside0.mk (And.intro hgs (And.intro hr5 hr0))
  clear hgs hr5 hr0
  have IB := placeS_ok hp
  obtain ⟨lt, ug, pen, pos, A, Ak, c, ck, vP, FB, FW, FK, g1, g2, g3, g4, g5, g6, g7, g8⟩ := hD
  obtain ⟨AP, cP, hvP, hcP, hPF⟩ := R_own g3
  subst hvP
  have UG := Aside0.mk ug
  have HB := Aside0.mk (And.intro hb hby)
  have PL := Aside0.mk hPl
  have HAR := Aside0.mk (And.intro h0 h1)
  have IBB := Aside0.mk IB
  obtain ⟨NB, hNB⟩ : ∃ n, n = s.B.length := ⟨_, rfl⟩
  obtain ⟨NP, hNP⟩ : ∃ n, n = s.P.length := ⟨_, rfl⟩
  have HNP := Aside0.mk hNP
  have G2 := Aside0.mk (show w.drew.heap[g]? = _ from g1)
  have P2 := Aside0.mk (Kd.R_step (w1 := w.drew) g3 (fun _ _ _ => rfl))
  have REST := Aside0.mk (And.intro lt (And.intro ug (And.intro pen (And.intro pos (And.intro g2 (And.intro g4 (And.intro g5 (And.intro g6 (And.intro g7 g8)))))))))
  have FWl := Aside0.mk (show ∀ k, FW k → k < w.heap.size from fun k q => lt k (g7 k q).1)
  have XC := Aside0.mk (Kd.F_now (Kd.F_drew hX))
  have f1 := blk_frozen G2.out 1
  obtain ⟨z0, z1, z2, z3, z4, z5⟩ := dk_cells g1
  rw [← hNB] at z0
  rw [← hNP] at z1
  rw [IB.1] at z2
  have e1 : decide (i < 0) = false := decide_eq_false (by omega)
  have e2 : decide (i ≥ (NB : Int)) = false := decide_eq_false (by omega)
  have e3 : decide ((NB : Int) ≤ i) = false := decide_eq_false (by omega)
  clear lt ug pen pos g1 g2 g3 g4 g5 g6 g7 g8 hPF hcP hp hb hby hX hPl h0 h1 IB hNB hNP z3 z4 z5
  go_enter Try.func66, Try.ntmps66
  go_wp2_with fail
  go_region_law (first
    | (refine Kd.R_append_rows_step (Kd.int .u8) (W := w.drew) (w0 := w) w.heap.size (by rfl) (.const (.slice none 0 0)) (.tmp 31) 26 5 (.int .u8 0) 1 rfl Try.underlying26 info5 rfl (by decide) (by decide) (.slice none 0 0) [] b Ax 256 cx (fun _ => True) (fun _ => False) rfl rfl (Kd.R_nil _ _ _ _ _) (show ReadsRow _ 1 w.drew _ 256 b from XC.out) (fun _ _ h => h) (fun _ h => h.elim) (fun _ _ => trivial) (below_drew (Below.refl _ _)) (Nat.le_refl _) (by simp) ?_; intro v1 wn ho hbn hgn hatn; rw [List.nil_append] at ho; obtain ⟨Y, yd, hv1, _, _⟩ := R_own ho; rw [HB.out.1] at hv1; subst hv1; have BN := Aside0.mk (show Below w.heap.size w wn from hbn); have YR := Aside0.mk (Kd.R_lower (Kd.R_mono (Kd.R_bound ho) (fun k hk => (show w.heap.size ≤ k ∧ k < wn.heap.size from ⟨hk.2.1, hk.2.2.1⟩))) (Nat.zero_le _)); have GN := Aside0.mk ((hbn.block g (REST.out.1 g UG.out)).trans G2.out); have PN := Aside0.mk (Kd.R_step P2.out (w1 := wn) (fun k hk hlt => hbn.block k (FWl.out k hk))); have y1 := (dk_cells GN.out).2.1; rw [← HNP.out] at y1; have y2 : (wn.alloc (.cells #[.int .i64 i, .slice Y 256 yd] 43)).cell? ⟨g, 1, none⟩ = some (.slice AP NP cP) := pw_cell_below ((Below.refl wn.heap.size wn).alloc (Nat.le_refl _) _) y1; clear ho hbn hgn hatn z0 z1 z2)
    | (refine Kd.R_append_step kW (W := wn) (w0 := wn) 0 (by rfl) (.tmp 29) (.tmp 34) 38 43 (.agg #[.int .i64 0, .slice none 0 0]) 32 rfl Try.underlying38 info43 rfl (by decide) (by decide) (.slice AP NP cP) s.P (i, b) [.int .i64 i, .slice Y 256 yd] (fun k => FW k ∨ w.heap.size ≤ k) (fun k => w.heap.size ≤ k ∧ k < wn.heap.size) rfl rfl (pen_make2 YR.out) (fun k q => ⟨.inr q.1, fun e => Nat.lt_irrefl _ (Nat.lt_of_lt_of_le (FWl.out _ (P2.out.1 k (by rw [← HNP.out]; exact e.symm))) q.1)⟩) (fun k q => .inr (Nat.le_trans BN.out.size q)) (by rw [HNP.out]; exact Kd.R_mono PN.out (fun k q => .inl q)) (below0 wn) (Nat.zero_le _) (by have := PL.out; omega) ?_; intro v3 w3 hR3 hb3 hg3 hat3; obtain ⟨A3, c3, hv3, hc3, hF3⟩ := R_own hR3; obtain ⟨n3, hn3⟩ : ∃ x, x = (s.P ++ [(i, b)]).length := ⟨_, rfl⟩; rw [← hn3] at hv3; subst hv3; clear hc3 hF3 hn3; rw [HNP.out] at hg3; have WD := Aside0.mk (wrote_dr (x := (i, b)) (wn := wn) REST.out.1 REST.out.2.1 REST.out.2.2.1 REST.out.2.2.2.1 (show w.heap[g]? = _ from G2.out) REST.out.2.2.2.2.1 P2.out.1 REST.out.2.2.2.2.2.1 REST.out.2.2.2.2.2.2.1 REST.out.2.2.2.2.2.2.2.1 REST.out.2.2.2.2.2.2.2.2.1 REST.out.2.2.2.2.2.2.2.2.2 BN.out hg3 ⟨IBB.out.2.1, IBB.out.2.2, HB.out.1, HB.out.2⟩ hR3); have k1 := blk_frozen WD.out.1 1; have q1 := (dk_cells WD.out.1).2.1; clear hR3 hb3 hg3 hat3 y1 y2))
  all_goals
    have WE := WD.out.2
    obtain ⟨w4, hw4⟩ : ∃ x, x = w3.setCell ⟨g, 1, none⟩ (.slice A3 n3 c3) := ⟨_, rfl⟩
    rw [← hw4] at WE ⊢
    have F4 := Aside0.mk WE.1
    have D4 := Aside0.mk WE.2
    have RG := Aside0.mk (r_goes WE.2 HAR.out.1 HAR.out.2)
    have GS := Aside0.mk (goesR_S (s := { s with P := s.P ++ [(i, b)] }) HAR.out.1 HAR.out.2)
    obtain ⟨bb, s1, hgr⟩ : ∃ b1 s1, goesR { s with P := s.P ++ [(i, b)] } = (b1, s1) := ⟨_, _, rfl⟩
    rw [hgr] at RG
    have GR := Aside0.mk hgr
    have S1 := Aside0.mk (show s1.off = false ∧ s1.picks = s.picks ∧ s1.P.length ≤ 1000000 from by
      have hl : (s.P ++ [(i, b)]).length ≤ 1000000 := by rw [List.length_append, List.length_singleton]; have := PL.out; omega
      unfold goesR at hgr
      split at hgr <;> (injection hgr with _ hgr; rw [← hgr]; exact ⟨IBB.out.1, rfl, hl⟩))
    clear WE hw4 hgr WD k1 q1 f1 e1 e2 e3
    go_wp2_with fail
    refine RG.out.mono ?_
    rintro e w5 ⟨rfl, hf, hD5⟩
    have D5 := Aside0.mk hD5
    have F5 := Aside0.mk hf
    obtain ⟨A', AP', Ak', c', cP', ck', hh, _⟩ := hD5.hd
    have HH := Aside0.mk hh
    clear hf hD5 RG
    have END := Aside0.mk (fun (w6 : World) (s6 : DS) (h : DoesR w5 w6 g (fun k => U k ∨ w.heap.size ≤ k ∧ k < w3.heap.size) s6) => DoesR.trans F4.out (fun q hq => (show U q ∨ w.heap.size ≤ q from hq.imp id And.left)) (DoesR.behind F5.out (.inl UG.out) h))
    cases bb with
    | true =>
      obtain ⟨_, _, _, _, _, z5⟩ := dk_cells hh
      clear hh
      go_wp2_with fail
      refine (r_crash D5.out S1.out.1 rfl (picks_own HH.out) S1.out.2.2).mono ?_
      rintro e w6 ⟨rfl, hD6⟩
      have D6 := Aside0.mk hD6
      clear hD6 z5
      go_wp2_with fail
      go_ret
      have eq : goesS { s with P := s.P ++ [(i, b)] } = (true, fallsS s1 s1.picks) := by
        rw [GS.out, GR.out, S1.out.2.1]
        rfl
      obtain ⟨k1, k2, k3⟩ := HGS.out
      rw [eq] at k1
      injection k1 with j1 j2
      rw [k2 j1.symm, ← j2]
      exact ⟨rfl, END.out _ _ D6.out⟩
    | false =>
      clear hh
      go_wp2_with fail
      go_ret
      have eq : goesS { s with P := s.P ++ [(i, b)] } = (false, s1) := by
        rw [GS.out, GR.out]
        rfl
      obtain ⟨k1, k2, k3⟩ := HGS.out
      rw [eq] at k1
      injection k1 with j1 j2
      rw [k3 j1.symm, ← j2]
      exact ⟨rfl, END.out _ _ (r_same D5.out (Below.refl _ _))⟩
/-- A write into the document's disk. -/
theorem r_write {w : World} {g : Nat} {U : Nat → Prop} {s : DS} (hD : DR w g U s) (h0 : 0 ≤ s.armed) (h1 : s.armed ≤ 9223372036854775807) (i : Int) {Ax : Option Addr} {nx cx : Nat} {b : List Int} (hb : b.length = nx) (hby : Bytes b) {UX : Nat → Prop} (hX : Kd.F (Kd.int .u8) w UX Ax nx b) (hPl : s.P.length ≤ 999999) :
    Calls Try.prog 66 #[.pointer (some ⟨g, 0, none⟩), .int .i64 i, .slice Ax nx cx] w fun e w' => e = .returned (.int .i64 (writeS s i b).1) ∧ DoesR w w' g U (writeS s i b).2 := by
  unfold writeS
  by_cases hp : placeS s i = 0
  · rw [if_neg (fun q => q hp)]
    by_cases hn : b.length = 256
    · rw [if_neg (fun q => q hn)]
      rw [hn] at hb
      subst hb
      refine r_write1 hD h0 h1 i hp hn hby hX hPl (bg := (goesS { s with P := s.P ++ [(i, b)] }).1) rfl (fun q => ?_) (fun q => ?_)
      · show (if (goesS { s with P := s.P ++ [(i, b)] }).1 = true then (5 : Int) else 0) = 5
        rw [if_pos q]
      · show (if (goesS { s with P := s.P ++ [(i, b)] }).1 = true then (5 : Int) else 0) = 0
        rw [if_neg (by rw [q]; decide)]
    · rw [if_pos hn]
      refine (r_write0 hD i 31 (.inr ⟨hp, by omega, rfl⟩)).mono ?_
      rintro e w' ⟨rfl, hb⟩
      exact ⟨rfl, r_same hD hb⟩
  · rw [if_pos hp]
    refine (r_write0 hD i _ (.inl ⟨hp, rfl⟩)).mono ?_
    rintro e w' ⟨rfl, hb⟩
    exact ⟨rfl, r_same hD hb⟩
end Go.Proofs.Ythnadkdfgckijaa.Pure
namespace Go.Proofs.Ythnadkdfgckijaa.Pure
open Go.RowKit Go.Proofs.Ythnadkdfgckijaa Go.Proofs.Ythnadkdfgckijaa.PAll Go.Proofs.Ythnadkdfgckijaa.Mem Go.Proofs.YthnadkdfgckijaaW.PrintWords Go.Proofs.YthnadkdfgckijaaW.PrintLast Go.Proofs.YthnadkdfgckijaaW.PrintMore
set_option linter.unusedVariables false
set_option linter.unusedSimpArgs false
set_option linter.unusedSectionVars false

/-- The code's disk in state s, the document's in state t; they share nothing, and nothing with X. -/
def Pair (w : World) (gd gr : Nat) (X : Nat → Prop) (s t : DS) : Prop := ∃ U U' : Nat → Prop, DK w gd U s ∧ DR w gr U' t ∧ (∀ k, U k → ¬ U' k) ∧ (∀ k, U k → ¬ X k) ∧ (∀ k, U' k → ¬ X k) ∧ (∀ k, X k → k < w.heap.size)
theorem Pair.below {w w' : World} {gd gr : Nat} {X : Nat → Prop} {s t : DS} (h : Pair w gd gr X s t) (hb : Below w.heap.size w w') : Pair w' gd gr X s t := by
  obtain ⟨U, U', h1, h2, h3, h4, h5, h6⟩ := h
  exact ⟨U, U', h1.below hb, h2.below hb, h3, h4, h5, fun k q => Nat.lt_of_lt_of_le (h6 k q) hb.size⟩
theorem Pair.fr {w w' : World} {gd gr : Nat} {X F : Nat → Prop} {s t : DS} (h : Pair w gd gr X s t) (hf : Fr F w w') (hF : ∀ k, F k → X k) : Pair w' gd gr X s t := by
  obtain ⟨U, U', h1, h2, h3, h4, h5, h6⟩ := h
  exact ⟨U, U', h1.fr hf (fun k q z => h4 k q (hF k z)), h2.fr hf (fun k q z => h5 k q (hF k z)), h3, h4, h5, fun k q => Nat.lt_of_lt_of_le (h6 k q) hf.size⟩
theorem Pair.add {w w' : World} {gd gr x : Nat} {X : Nat → Prop} {s t : DS} (h : Pair w gd gr X s t) (hb : Below w.heap.size w w') (hx : w.heap.size ≤ x ∧ x < w'.heap.size) : Pair w' gd gr (fun k => X k ∨ k = x) s t := by
  obtain ⟨U, U', h1, h2, h3, h4, h5, h6⟩ := h
  refine ⟨U, U', h1.below hb, h2.below hb, h3, fun k q => ?_, fun k q => ?_, fun k q => ?_⟩
  · rintro (z | z)
    · exact h4 k q z
    · have := h1.lt k q; omega
  · rintro (z | z)
    · exact h5 k q z
    · have := h2.lt k q; omega
  · rcases q with z | z
    · exact Nat.lt_of_lt_of_le (h6 k z) hb.size
    · rw [z]; exact hx.2
theorem Pair.less {w : World} {gd gr : Nat} {X X' : Nat → Prop} {s t : DS} (h : Pair w gd gr X s t) (hX : ∀ k, X' k → X k) : Pair w gd gr X' s t := by
  obtain ⟨U, U', h1, h2, h3, h4, h5, h6⟩ := h
  exact ⟨U, U', h1, h2, h3, fun k q z => h4 k q (hX k z), fun k q z => h5 k q (hX k z), fun k q => h6 k (hX k q)⟩
theorem Pair.k {w : World} {gd gr : Nat} {X : Nat → Prop} {s t : DS} (h : Pair w gd gr X s t) : ∃ U, DK w gd U s ∧ (∀ k, U k → ¬ X k) ∧ ∀ w1 s1, Does w w1 gd U s1 → Pair w1 gd gr X s1 t ∧ Fr (fun k => ¬ X k) w w1 := by
  obtain ⟨U, U', h1, h2, h3, h4, h5, h6⟩ := h
  refine ⟨U, h1, h4, fun w1 s1 hd => ?_⟩
  obtain ⟨hf, U1, g1, g2⟩ := hd
  refine ⟨⟨U1, U', g1, h2.fr hf (fun k q z => h3 k z q), fun k q z => ?_, fun k q z => ?_, h5, fun k q => Nat.lt_of_lt_of_le (h6 k q) hf.size⟩, hf.mono h4⟩
  · rcases g2 k q with y | y
    · exact h3 k y z
    · have := h2.lt k z; omega
  · rcases g2 k q with y | y
    · exact h4 k y z
    · have := h6 k z; omega
theorem Pair.r {w : World} {gd gr : Nat} {X : Nat → Prop} {s t : DS} (h : Pair w gd gr X s t) : ∃ U', DR w gr U' t ∧ (∀ k, U' k → ¬ X k) ∧ ∀ w1 t1, DoesR w w1 gr U' t1 → Pair w1 gd gr X s t1 ∧ Fr (fun k => ¬ X k) w w1 := by
  obtain ⟨U, U', h1, h2, h3, h4, h5, h6⟩ := h
  refine ⟨U', h2, h5, fun w1 s1 hd => ?_⟩
  obtain ⟨hf, U1, g1, g2⟩ := hd
  refine ⟨⟨U, U1, h1.fr hf (fun k q z => h3 k q z), g1, fun k q z => ?_, h4, fun k q z => ?_, fun k q => Nat.lt_of_lt_of_le (h6 k q) hf.size⟩, hf.mono h5⟩
  · rcases g2 k z with y | y
    · exact h3 k q y
    · have := h1.lt k q; omega
  · rcases g2 k q with y | y
    · exact h5 k y z
    · have := h6 k z; omega
theorem Does.of {w w' : World} {g : Nat} {U : Nat → Prop} {s : DS} (h : DK w' g U s) (hf : Fr U w w') : Does w w' g U s := ⟨hf, U, h, fun k q => .inl q⟩
/-- What a disk's state is bound to. -/
structure Sok (m : Nat) (s : DS) : Prop where
  a0 : 0 ≤ s.armed
  a1 : s.armed ≤ 9223372036854775807
  P : s.P.length ≤ m
  B : s.B.length ≤ 2048
  K : s.picks.length ≤ 140737488351232
theorem Sok.next {m : Nat} {s : DS} (h : Sok m s) : Sok (m + 1) s := ⟨h.a0, h.a1, Nat.le_succ_of_le h.P, h.B, h.K⟩
theorem Sok.falls {m : Nat} {s : DS} (h : Sok m s) (ps : List Int) : Sok m (fallsS s ps) := ⟨Int.le_refl 0, (show (0 : Int) ≤ 9223372036854775807 by decide), Nat.zero_le _, by rw [show (fallsS s ps).B.length = s.B.length from fallB_len _ _]; exact h.B, Nat.zero_le _⟩
theorem Sok.goes {m : Nat} {s : DS} (h : Sok m s) : Sok m (goesS s).2 := by
  have := goesR_S h.a0 h.a1
  have hr : Sok m (goesR s).2 := by
    unfold goesR
    split
    · exact ⟨h.a0, h.a1, h.P, h.B, h.K⟩
    · next hz =>
      have h0 := h.a0
      have h1 := h.a1
      exact ⟨show 0 ≤ s.armed - 1 by omega, show s.armed - 1 ≤ 9223372036854775807 by omega, h.P, h.B, h.K⟩
  rw [this]
  split
  · exact hr.falls _
  · exact hr
/-- What an operation does to a state. -/
def stepD (s : DS) (o : SOp) : DS :=
  if o.do_ = 0 then (writeS s o.blk (blockL o.fill o.len)).2 else if o.do_ = 1 then (flushS s).2 else if o.do_ = 2 then (armS s o.n o.picks).2 else if o.do_ = 3 then (crashS s o.picks).2 else if o.do_ = 4 then (restartS s).2 else s
theorem Sok.step {m : Nat} {s : DS} (h : Sok m s) (o : SOp) (hn : o.n ≤ 9223372036854775807) (hk : o.picks.length ≤ 140737488351232) : Sok (m + 1) (stepD s o) := by
  unfold stepD
  split
  · unfold writeS
    split
    · exact h.next
    · split
      · exact h.next
      · exact Sok.goes ⟨h.a0, h.a1, by show (s.P ++ [_]).length ≤ _; rw [List.length_append, List.length_singleton]; have := h.P; omega, h.B, h.K⟩
  · split
    · unfold flushS
      split
      · exact h.next
      · have g := h.goes
        show Sok (m + 1) (if (goesS s).1 = true then ((5 : Int), (goesS s).2) else (0, { (goesS s).2 with B := flushB (goesS s).2.B (goesS s).2.P, P := [] })).2
        split
        · exact g.next
        · exact ⟨g.a0, g.a1, Nat.zero_le _, by show (flushB _ _).length ≤ _; rw [flushB_len]; exact g.B, g.K⟩
    · split
      · unfold armS
        split
        · exact h.next
        · split
          · exact h.next
          · next h1 h2 => exact ⟨by show 0 ≤ o.n; omega, hn, Nat.le_succ_of_le h.P, h.B, hk⟩
      · split
        · unfold crashS
          split
          · exact h.next
          · exact (h.falls _).next
        · split
          · unfold restartS
            split
            · exact ⟨h.a0, h.a1, Nat.le_succ_of_le h.P, h.B, h.K⟩
            · exact h.next
          · exact h.next
section
variable {w : World} {gd gr : Nat} {X : Nat → Prop} {s t : DS} {m : Nat}
theorem pk_write (h : Pair w gd gr X s t) (hs : Sok m s) (hm : m ≤ 120) (i : Int) {Ax : Option Addr} {n cx : Nat} {b : List Int} {UX : Nat → Prop} (hX : Kd.F (Kd.int .u8) w UX Ax n b) (hUX : ∀ k, UX k → X k) (hn : b.length = n) (hby : Bytes b) (hcx : n ≤ cx) {r : Int} {s' : DS} (hr : writeS s i b = (r, s')) : Calls Try.prog 16 #[.pointer (some ⟨gd, 0, none⟩), .int .i64 i, .slice Ax n cx] w fun e w' => e = .returned (.int .i64 r) ∧ Pair w' gd gr X s' t ∧ Fr (fun k => ¬ X k) w w' := by
  obtain ⟨U, h1, h2, h3⟩ := h.k
  refine (dk_write h1 i hn hby hX hcx (fun k q z => h2 k z (hUX k q)) (by have := hs.P; omega)).mono ?_
  rintro e w' ⟨rfl, hd⟩
  rw [hr] at hd ⊢
  exact ⟨rfl, h3 w' _ hd⟩
theorem pr_write (h : Pair w gd gr X s t) (hs : Sok m t) (hm : m ≤ 120) (i : Int) {Ax : Option Addr} {n cx : Nat} {b : List Int} {UX : Nat → Prop} (hX : Kd.F (Kd.int .u8) w UX Ax n b) (hn : b.length = n) (hby : Bytes b) {r : Int} {s' : DS} (hr : writeS t i b = (r, s')) : Calls Try.prog 66 #[.pointer (some ⟨gr, 0, none⟩), .int .i64 i, .slice Ax n cx] w fun e w' => e = .returned (.int .i64 r) ∧ Pair w' gd gr X s s' ∧ Fr (fun k => ¬ X k) w w' := by
  obtain ⟨U, h1, h2, h3⟩ := h.r
  refine (r_write h1 hs.a0 hs.a1 i hn hby hX (by have := hs.P; omega)).mono ?_
  rintro e w' ⟨rfl, hd⟩
  rw [hr] at hd ⊢
  exact ⟨rfl, h3 w' _ hd⟩
theorem pk_flush (h : Pair w gd gr X s t) {r : Int} {s' : DS} (hr : flushS s = (r, s')) : Calls Try.prog 18 #[.pointer (some ⟨gd, 0, none⟩)] w fun e w' => e = .returned (.int .i64 r) ∧ Pair w' gd gr X s' t ∧ Fr (fun k => ¬ X k) w w' := by
  obtain ⟨U, h1, h2, h3⟩ := h.k
  refine (dk_flush h1).mono ?_
  rintro e w' ⟨rfl, hd, hf⟩
  rw [hr] at hd ⊢
  exact ⟨rfl, h3 w' _ (Does.of hd hf)⟩
theorem pr_flush (h : Pair w gd gr X s t) (hs : Sok m t) (hm : m ≤ 120) {r : Int} {s' : DS} (hr : flushS t = (r, s')) : Calls Try.prog 67 #[.pointer (some ⟨gr, 0, none⟩)] w fun e w' => e = .returned (.int .i64 r) ∧ Pair w' gd gr X s s' ∧ Fr (fun k => ¬ X k) w w' := by
  obtain ⟨U, h1, h2, h3⟩ := h.r
  refine (r_flush h1 hs.a0 hs.a1 (by have := hs.P; omega)).mono ?_
  rintro e w' ⟨rfl, hd⟩
  rw [hr] at hd ⊢
  exact ⟨rfl, h3 w' _ hd⟩
theorem pk_restart (h : Pair w gd gr X s t) {r : Int} {s' : DS} (hr : restartS s = (r, s')) : Calls Try.prog 30 #[.pointer (some ⟨gd, 0, none⟩)] w fun e w' => e = .returned (.int .i64 r) ∧ Pair w' gd gr X s' t ∧ Fr (fun k => ¬ X k) w w' := by
  obtain ⟨U, h1, h2, h3⟩ := h.k
  refine (dk_restart h1).mono ?_
  rintro e w' ⟨rfl, hd, hf⟩
  rw [hr] at hd ⊢
  exact ⟨rfl, h3 w' _ (Does.of hd hf)⟩
theorem pr_restart (h : Pair w gd gr X s t) {r : Int} {s' : DS} (hr : restartS t = (r, s')) : Calls Try.prog 70 #[.pointer (some ⟨gr, 0, none⟩)] w fun e w' => e = .returned (.int .i64 r) ∧ Pair w' gd gr X s s' ∧ Fr (fun k => ¬ X k) w w' := by
  obtain ⟨U, h1, h2, h3⟩ := h.r
  refine (r_restart h1).mono ?_
  rintro e w' ⟨rfl, hd⟩
  rw [hr] at hd ⊢
  exact ⟨rfl, h3 w' _ hd⟩
theorem pk_arm (h : Pair w gd gr X s t) (i : Int) {Ax : Option Addr} {n cx : Nat} {b : List Int} {UX : Nat → Prop} (hX : Kd.F (Kd.int .u8) w UX Ax n b) (hn : n ≤ 140737488351232) {r : Int} {s' : DS} (hr : armS s i b = (r, s')) : Calls Try.prog 29 #[.pointer (some ⟨gd, 0, none⟩), .int .i64 i, .slice Ax n cx] w fun e w' => e = .returned (.int .i64 r) ∧ Pair w' gd gr X s' t ∧ Fr (fun k => ¬ X k) w w' := by
  obtain ⟨U, h1, h2, h3⟩ := h.k
  refine (kr_arm h1.toR i hX hn r s' hr).mono ?_
  rintro e w' ⟨rfl, hd⟩
  exact ⟨rfl, h3 w' _ hd.does⟩
theorem pr_arm (h : Pair w gd gr X s t) (i : Int) {Ax : Option Addr} {n cx : Nat} {b : List Int} {UX : Nat → Prop} (hX : Kd.F (Kd.int .u8) w UX Ax n b) (hUX : ∀ k, UX k → X k) (hn : n ≤ 140737488351232) {r : Int} {s' : DS} (hr : armS t i b = (r, s')) : Calls Try.prog 68 #[.pointer (some ⟨gr, 0, none⟩), .int .i64 i, .slice Ax n cx] w fun e w' => e = .returned (.int .i64 r) ∧ Pair w' gd gr X s s' ∧ Fr (fun k => ¬ X k) w w' := by
  obtain ⟨U, h1, h2, h3⟩ := h.r
  refine (r_arm h1 i hX hn (fun k q z => h2 k z (hUX k q))).mono ?_
  rintro e w' ⟨rfl, hd⟩
  rw [hr] at hd ⊢
  exact ⟨rfl, h3 w' _ hd⟩
theorem pk_crash (h : Pair w gd gr X s t) {Ax : Option Addr} {n cx : Nat} {b : List Int} {UX : Nat → Prop} (hX : Kd.F (Kd.int .u8) w UX Ax n b) (hUX : ∀ k, UX k → X k) (hn : b.length = n) (hcx : n ≤ cx) {r : Int} {s' : DS} (hr : crashS s b = (r, s')) : Calls Try.prog 23 #[.pointer (some ⟨gd, 0, none⟩), .slice Ax n cx] w fun e w' => e = .returned (.int .i64 r) ∧ Pair w' gd gr X s' t ∧ Fr (fun k => ¬ X k) w w' := by
  obtain ⟨U, h1, h2, h3⟩ := h.k
  subst hn
  refine (dk_crash h1 hX hcx (fun k q z => h2 k z (hUX k q))).mono ?_
  rintro e w' ⟨rfl, hd, hf⟩
  rw [hr] at hd ⊢
  exact ⟨rfl, h3 w' _ (Does.of hd hf)⟩
theorem pr_crash (h : Pair w gd gr X s t) (hs : Sok m t) (hm : m ≤ 120) {Ax : Option Addr} {n cx : Nat} {b : List Int} {UX : Nat → Prop} (hX : Kd.F (Kd.int .u8) w UX Ax n b) (hUX : ∀ k, UX k → X k) (hn : b.length = n) {r : Int} {s' : DS} (hr : crashS t b = (r, s')) : Calls Try.prog 69 #[.pointer (some ⟨gr, 0, none⟩), .slice Ax n cx] w fun e w' => e = .returned (.int .i64 r) ∧ Pair w' gd gr X s s' ∧ Fr (fun k => ¬ X k) w w' := by
  obtain ⟨U, h1, h2, h3⟩ := h.r
  unfold crashS at hr
  cases ho : t.off with
  | true =>
    rw [if_pos ho] at hr
    injection hr with hr1 hr2
    subst hr1 hr2
    refine (r_crash_off h1 ho _).mono ?_
    rintro e w' ⟨rfl, hb⟩
    exact ⟨rfl, h3 w' _ (r_same h1 hb)⟩
  | false =>
    rw [if_neg (by rw [ho]; decide)] at hr
    injection hr with hr1 hr2
    subst hr1 hr2
    subst hn
    refine (r_crash h1 ho rfl (picks_far hX (fun k q z => h2 k z (hUX k q))) (by have := hs.P; omega)).mono ?_
    rintro e w' ⟨rfl, hd⟩
    exact ⟨rfl, h3 w' _ hd⟩
theorem pk_read (h : Pair w gd gr X s t) (hs : Sok m s) (hm : m ≤ 120) (i : Int) {r : Int} {b : List Int} (hr : readS s i = (r, b)) : Calls Try.prog 19 #[.pointer (some ⟨gd, 0, none⟩), .int .i64 i] w fun e w' => ∃ Y yd, e = .returned (.tuple #[.slice Y b.length yd, .int .i64 r]) ∧ Own w' w.heap.size Y yd b ∧ Below w.heap.size w w' := by
  obtain ⟨U, h1, h2, h3⟩ := h.k
  exact n_read (V := U) ⟨U, h1, fun _ q => q⟩ i (by have := hs.P; omega) hr
theorem pr_read (h : Pair w gd gr X s t) (hs : Sok m t) (hm : m ≤ 120) (i : Int) {r : Int} {b : List Int} (hr : readS t i = (r, b)) : Calls Try.prog 27 #[.pointer (some ⟨gr, 0, none⟩), .int .i64 i] w fun e w' => ∃ Y yd, e = .returned (.tuple #[.slice Y b.length yd, .int .i64 r]) ∧ Own w' w.heap.size Y yd b ∧ Below w.heap.size w w' := by
  obtain ⟨U, h1, h2, h3⟩ := h.r
  exact r_read (V := U) ⟨U, h1, fun _ q => q⟩ i (by have := hs.B; omega) (by have := hs.P; omega) hr
end
end Go.Proofs.Ythnadkdfgckijaa.Pure
namespace Go.Proofs.Ythnadkdfgckijaa.Pure
open Go.RowKit Go.Proofs.Ythnadkdfgckijaa Go.Proofs.Ythnadkdfgckijaa.PAll Go.Proofs.Ythnadkdfgckijaa.Mem Go.Proofs.YthnadkdfgckijaaW.PrintWords Go.Proofs.YthnadkdfgckijaaW.PrintLast Go.Proofs.YthnadkdfgckijaaW.PrintMore
set_option linter.unusedVariables false
set_option linter.unusedSimpArgs false
set_option linter.unusedSectionVars false

theorem Pair.xlt {w : World} {gd gr : Nat} {X : Nat → Prop} {s t : DS} (h : Pair w gd gr X s t) : ∀ k, X k → k < w.heap.size := by
  obtain ⟨_, _, _, _, _, _, _, h6⟩ := h
  exact h6
theorem Pair.ok {w : World} {gd gr : Nat} {X : Nat → Prop} {s t : DS} (h : Pair w gd gr X s t) : BlkOk s.B ∧ PenOk s.B.length s.P := by
  obtain ⟨U, U', h1, _⟩ := h
  obtain ⟨lt, ug, pen, pos, A, Ak, c, ck, vP, FB, FW, FK, g1, g2, _⟩ := h1
  exact ⟨g2.ok, pen⟩
/-- What stays known through an operation. -/
structure Amid (wI w0 w : World) (n0 g5 gd gr : Nat) (X UX : Nat → Prop) (s t : DS) (cs : Array Value) (Ap : Option Addr) (np : Nat) (ps : List Int) : Prop where
  P : Pair w gd gr (fun k => X k ∨ k = g5) s t
  G : w.heap[g5]? = some (.cells cs 29 (0, 0))
  R : Kd.F (Kd.int .u8) w UX Ap np ps
  K : Below n0 w0 w
  S : n0 ≤ w.heap.size
  H : ∀ k, X k → w.heap[k]? = wI.heap[k]?
theorem Amid.below {wI w0 w w' : World} {n0 g5 gd gr np : Nat} {X UX : Nat → Prop} {s t : DS} {cs : Array Value} {Ap : Option Addr} {ps : List Int} (h : Amid wI w0 w n0 g5 gd gr X UX s t cs Ap np ps) (hb : Below w.heap.size w w') : Amid wI w0 w' n0 g5 gd gr X UX s t cs Ap np ps :=
  ⟨h.P.below hb, (hb.block _ (blk_lt h.G)).trans h.G, Kd.F_below h.R hb, h.K.trans (hb.mono h.S), Nat.le_trans h.S hb.size, fun k q => (hb.block k (h.P.xlt k (.inl q))).trans (h.H k q)⟩
theorem Amid.step {wI w0 w w' : World} {n0 g5 gd gr np : Nat} {X UX : Nat → Prop} {s t s' t' : DS} {cs : Array Value} {Ap : Option Addr} {ps : List Int} (h : Amid wI w0 w n0 g5 gd gr X UX s t cs Ap np ps) (hX0 : ∀ i, i < n0 → X i) (hUX : ∀ k, UX k → X k)
    (hP : Pair w' gd gr (fun k => X k ∨ k = g5) s' t') (hf : Fr (fun k => ¬ (X k ∨ k = g5)) w w') : Amid wI w0 w' n0 g5 gd gr X UX s' t' cs Ap np ps :=
  ⟨hP, (hf.block g5 (blk_lt h.G) (fun q => q (.inr rfl))).trans h.G, F_fr h.R hf (fun k hk q => q (.inl (hUX k hk))), hf.below h.K (fun i hi => Nat.le_of_not_lt (fun z => hi (.inl (hX0 i z)))) h.S, Nat.le_trans h.S hf.size, fun k q => (hf.block k (h.P.xlt k (.inl q)) (fun z => z (.inl q))).trans (h.H k q)⟩
theorem Pair.addF {w w' : World} {gd gr : Nat} {X F : Nat → Prop} {s t : DS} (h : Pair w gd gr X s t) (hb : Below w.heap.size w w') (hF : ∀ k, F k → w.heap.size ≤ k ∧ k < w'.heap.size) : Pair w' gd gr (fun k => X k ∨ F k) s t := by
  obtain ⟨U, U', h1, h2, h3, h4, h5, h6⟩ := h
  refine ⟨U, U', h1.below hb, h2.below hb, h3, fun k q => ?_, fun k q => ?_, fun k q => ?_⟩
  · rintro (z | z)
    · exact h4 k q z
    · have := h1.lt k q; have := (hF k z).1; omega
  · rintro (z | z)
    · exact h5 k q z
    · have := h2.lt k q; have := (hF k z).1; omega
  · rcases q with z | z
    · exact Nat.lt_of_lt_of_le (h6 k z) hb.size
    · exact (hF k z).2
theorem Amid.overF {wI w0 w w' : World} {n0 g5 gd gr np : Nat} {X UX F : Nat → Prop} {s t : DS} {cs : Array Value} {Ap : Option Addr} {ps : List Int} (h : Amid wI w0 w n0 g5 gd gr X UX s t cs Ap np ps) (hY : Pair w gd gr (fun k => (X k ∨ k = g5) ∨ F k) s t) (hF : ∀ k, F k → k ≠ g5 ∧ n0 ≤ k ∧ ¬ UX k ∧ ¬ X k) (hf : Fr F w w') : Amid wI w0 w' n0 g5 gd gr X UX s t cs Ap np ps :=
  ⟨(hY.fr hf (fun k e => .inr e)).less (fun k q => .inl q), (hf.block g5 (blk_lt h.G) (fun e => (hF _ e).1 rfl)).trans h.G, F_fr h.R hf (fun k hk e => (hF k e).2.2.1 hk), hf.below h.K (fun i e => (hF i e).2.1) h.S, Nat.le_trans h.S hf.size, fun k q => (hf.block k (h.P.xlt k (.inl q)) (fun e => (hF k e).2.2.2 q)).trans (h.H k q)⟩
theorem Amid.far {wI w0 w : World} {n0 g5 gd gr np : Nat} {X UX : Nat → Prop} {s t : DS} {cs : Array Value} {Ap : Option Addr} {ps : List Int} (h : Amid wI w0 w n0 g5 gd gr X UX s t cs Ap np ps) (hUX : ∀ k, UX k → X k) {k : Nat} (hk : w.heap.size ≤ k) : k ≠ g5 ∧ n0 ≤ k ∧ ¬ UX k ∧ ¬ X k := by
  obtain ⟨_, _, _, _, _, _, _, h6⟩ := h.P
  refine ⟨fun e => ?_, Nat.le_trans h.S hk, fun q => ?_, fun q => ?_⟩
  · have := blk_lt h.G; omega
  · have := h6 k (.inl (hUX k q)); omega
  · have := h6 k (.inl q); omega
theorem own_F3 {w : World} {base c n : Nat} {A : Option Addr} {l : List Int} (h : Own w base A c l) (hn : l.length = n) : Kd.F (Kd.int .u8) w (OwnF A l) A n l := hn ▸ own_F h
theorem readS_len {s : DS} (hB : BlkOk s.B) (hP : PenOk s.B.length s.P) {i : Int} {r : Int} {b : List Int} (h : readS s i = (r, b)) {n : Nat} (hn : b.length = n) : n ≤ 600 := by
  subst hn
  unfold readS at h
  split at h
  · injection h with _ h
    rw [← h]; exact Nat.zero_le _
  · next hp =>
    injection h with _ h
    rw [← h]
    have hp' : placeS s i = 0 := by
      by_cases q : placeS s i = 0
      · exact q
      · exact absurd q hp
    obtain ⟨_, h1, h2⟩ := placeS_ok hp'
    have hd := (getD_ok hB (i := i.toNat) (by omega)).1
    have : ∀ (P : List (Int × List Int)) (d : List Int), (∀ x ∈ P, x.2.length = 256) → d.length = 256 → (lastW P i d).length = 256 := by
      intro P
      induction P with
      | nil => intro d _ hd; exact hd
      | cons x P ih =>
        intro d hx hd
        unfold lastW
        rw [List.foldl_cons]
        have := ih (if x.1 = i then x.2 else d) (fun y hy => hx y (List.mem_cons_of_mem _ hy)) (by split; exact hx x (List.mem_cons_self ..); exact hd)
        unfold lastW at this
        exact this
    rw [this s.P _ (fun x hx => (hP x hx).2.2.1) hd]
    decide
theorem eqz {a b : Int} (h : a ≠ b) : (a == b) = false := by simpa using h
set_option maxRecDepth 100000 in
set_option maxHeartbeats 16000000 in
theorem does_1 {w0 w : World} {n0 gd gr np cp m : Nat} {X UX : Nat → Prop} {s : DS} {Ap : Option Addr} {ps : List Int} (a0 a1 a2 a3 a4 : Int) (hP : Pair w gd gr X s s) (hs : Sok m s) (hm : m ≤ 120) (hX : Kd.F (Kd.int .u8) w UX Ap np ps) (hUX : ∀ k, UX k → X k) (hn : ps.length = np) (hcp : np ≤ cp) (hnb : np ≤ 140737488351232) (hK : Below n0 w0 w) (hX0 : ∀ i, i < n0 → X i) (hn0 : n0 ≤ w.heap.size) (h1 : a0 = 1) :
    Calls Try.prog 37 #[.pointer (some ⟨gd, 0, none⟩), .pointer (some ⟨gr, 0, none⟩), .agg #[.int .i64 a0, .int .i64 a1, .int .u8 a2, .int .i64 a3, .int .i64 a4, .slice Ap np cp]] w fun e w' => e = .returned (.bool true) ∧ Pair w' gd gr X (stepD s ⟨a0, a1, a2, a3, a4, ps⟩) (stepD s ⟨a0, a1, a2, a3, a4, ps⟩) ∧ Below n0 w0 w' ∧ ∀ k, X k → w'.heap[k]? = w.heap[k]? := by
  have HS := Aside0.mk hs
  have HM := Aside0.mk hm
  have UXA := Aside0.mk hUX
  have XA := Aside0.mk hX0
  have NA := Aside0.mk hn
  have CA := Aside0.mk hcp
  have BA := Aside0.mk hnb
  subst h1
  have XN := Aside0.mk (heap_new w (.cells #[.int .i64 1, .int .i64 a1, .int .u8 a2, .int .i64 a3, .int .i64 a4, .slice Ap np cp] 29))
  have XB := (Below.refl w.heap.size w).alloc (Nat.le_refl _) (.cells #[.int .i64 1, .int .i64 a1, .int .u8 a2, .int .i64 a3, .int .i64 a4, .slice Ap np cp] 29)
  have HA := Aside0.mk (show Amid w w0 (w.alloc (.cells #[.int .i64 1, .int .i64 a1, .int .u8 a2, .int .i64 a3, .int .i64 a4, .slice Ap np cp] 29)) n0 w.heap.size gd gr X UX s s _ Ap np ps from ⟨hP.add XB ⟨Nat.le_refl _, by simp⟩, XN.out, Kd.F_below hX XB, hK.trans (XB.mono hn0), Nat.le_trans hn0 XB.size, fun k q => XB.block k (hP.xlt k q)⟩)
  obtain ⟨w1, hw1⟩ : ∃ y, y = w.alloc (.cells #[.int .i64 1, .int .i64 a1, .int .u8 a2, .int .i64 a3, .int .i64 a4, .slice Ap np cp] 29) := ⟨_, rfl⟩
  obtain ⟨g5, hg5⟩ : ∃ y, y = w.heap.size := ⟨_, rfl⟩
  have G5 := Aside0.mk (show n0 ≤ g5 ∧ ¬ UX g5 from by rw [hg5]; exact ⟨hn0, fun q => by obtain ⟨_, _, _, _, _, _, _, q6⟩ := hP; exact Nat.lt_irrefl _ (q6 _ (hUX _ q))⟩)
  rw [← hw1, ← hg5] at HA
  obtain ⟨y0, y1, y2, y3, y4, y5⟩ := six_cells HA.out.G
  have W1 := Aside0.mk hw1
  have G1 := Aside0.mk hg5
  clear XN XB hP hs hm hX hUX hn hcp hnb hK hX0 hn0
  rw [hw1, hg5] at y0 y1 y2 y3 y4 y5
  clear hw1 hg5
  go_enter Try.func37, Try.ntmps37
  go_wp2_with fail
  rw [← W1.out, ← G1.out]
  clear W1 G1 y0 y1 y2 y3 y4 y5
  obtain ⟨y0, y1, y2, y3, y4, y5⟩ := six_cells HA.out.G
  obtain ⟨r, s', hr⟩ : ∃ r s', flushS s = (r, s') := ⟨_, _, rfl⟩
  have SE := Aside0.mk (show stepD s ⟨1, a1, a2, a3, a4, ps⟩ = s' from by unfold stepD; rw [if_neg (show ¬ (1 : Int) = 0 by decide)]; rw [if_pos rfl, hr])
  have HR := Aside0.mk hr
  clear hr
  refine (pk_flush HA.out.P HR.out).mono ?_
  rintro e w2 ⟨rfl, hP, hf⟩
  replace HA := Aside0.mk (HA.out.step XA.out UXA.out hP hf)
  clear hP hf y0 y1 y2 y3 y4 y5
  go_wp2_with fail
  refine (pr_flush HA.out.P HS.out HM.out HR.out).mono ?_
  rintro e w3 ⟨rfl, hP, hf⟩
  replace HA := Aside0.mk (HA.out.step XA.out UXA.out hP hf)
  clear hP hf
  go_wp2_with fail
  go_ret
  rw [SE.out]
  exact ⟨rfl, HA.out.P.less (fun k q => .inl q), HA.out.K, HA.out.H⟩
set_option maxRecDepth 100000 in
set_option maxHeartbeats 16000000 in
theorem does_4 {w0 w : World} {n0 gd gr np cp m : Nat} {X UX : Nat → Prop} {s : DS} {Ap : Option Addr} {ps : List Int} (a0 a1 a2 a3 a4 : Int) (hP : Pair w gd gr X s s) (hs : Sok m s) (hm : m ≤ 120) (hX : Kd.F (Kd.int .u8) w UX Ap np ps) (hUX : ∀ k, UX k → X k) (hn : ps.length = np) (hcp : np ≤ cp) (hnb : np ≤ 140737488351232) (hK : Below n0 w0 w) (hX0 : ∀ i, i < n0 → X i) (hn0 : n0 ≤ w.heap.size) (h4 : a0 = 4) :
    Calls Try.prog 37 #[.pointer (some ⟨gd, 0, none⟩), .pointer (some ⟨gr, 0, none⟩), .agg #[.int .i64 a0, .int .i64 a1, .int .u8 a2, .int .i64 a3, .int .i64 a4, .slice Ap np cp]] w fun e w' => e = .returned (.bool true) ∧ Pair w' gd gr X (stepD s ⟨a0, a1, a2, a3, a4, ps⟩) (stepD s ⟨a0, a1, a2, a3, a4, ps⟩) ∧ Below n0 w0 w' ∧ ∀ k, X k → w'.heap[k]? = w.heap[k]? := by
  have HS := Aside0.mk hs
  have HM := Aside0.mk hm
  have UXA := Aside0.mk hUX
  have XA := Aside0.mk hX0
  have NA := Aside0.mk hn
  have CA := Aside0.mk hcp
  have BA := Aside0.mk hnb
  subst h4
  have XN := Aside0.mk (heap_new w (.cells #[.int .i64 4, .int .i64 a1, .int .u8 a2, .int .i64 a3, .int .i64 a4, .slice Ap np cp] 29))
  have XB := (Below.refl w.heap.size w).alloc (Nat.le_refl _) (.cells #[.int .i64 4, .int .i64 a1, .int .u8 a2, .int .i64 a3, .int .i64 a4, .slice Ap np cp] 29)
  have HA := Aside0.mk (show Amid w w0 (w.alloc (.cells #[.int .i64 4, .int .i64 a1, .int .u8 a2, .int .i64 a3, .int .i64 a4, .slice Ap np cp] 29)) n0 w.heap.size gd gr X UX s s _ Ap np ps from ⟨hP.add XB ⟨Nat.le_refl _, by simp⟩, XN.out, Kd.F_below hX XB, hK.trans (XB.mono hn0), Nat.le_trans hn0 XB.size, fun k q => XB.block k (hP.xlt k q)⟩)
  obtain ⟨w1, hw1⟩ : ∃ y, y = w.alloc (.cells #[.int .i64 4, .int .i64 a1, .int .u8 a2, .int .i64 a3, .int .i64 a4, .slice Ap np cp] 29) := ⟨_, rfl⟩
  obtain ⟨g5, hg5⟩ : ∃ y, y = w.heap.size := ⟨_, rfl⟩
  have G5 := Aside0.mk (show n0 ≤ g5 ∧ ¬ UX g5 from by rw [hg5]; exact ⟨hn0, fun q => by obtain ⟨_, _, _, _, _, _, _, q6⟩ := hP; exact Nat.lt_irrefl _ (q6 _ (hUX _ q))⟩)
  rw [← hw1, ← hg5] at HA
  obtain ⟨y0, y1, y2, y3, y4, y5⟩ := six_cells HA.out.G
  have W1 := Aside0.mk hw1
  have G1 := Aside0.mk hg5
  clear XN XB hP hs hm hX hUX hn hcp hnb hK hX0 hn0
  rw [hw1, hg5] at y0 y1 y2 y3 y4 y5
  clear hw1 hg5
  go_enter Try.func37, Try.ntmps37
  go_wp2_with fail
  rw [← W1.out, ← G1.out]
  clear W1 G1 y0 y1 y2 y3 y4 y5
  obtain ⟨y0, y1, y2, y3, y4, y5⟩ := six_cells HA.out.G
  obtain ⟨r, s', hr⟩ : ∃ r s', restartS s = (r, s') := ⟨_, _, rfl⟩
  have SE := Aside0.mk (show stepD s ⟨4, a1, a2, a3, a4, ps⟩ = s' from by unfold stepD; rw [if_neg (show ¬ (4 : Int) = 0 by decide)]; rw [if_neg (show ¬ (4 : Int) = 1 by decide)]; rw [if_neg (show ¬ (4 : Int) = 2 by decide)]; rw [if_neg (show ¬ (4 : Int) = 3 by decide)]; rw [if_pos rfl, hr])
  have HR := Aside0.mk hr
  clear hr
  refine (pk_restart HA.out.P HR.out).mono ?_
  rintro e w2 ⟨rfl, hP, hf⟩
  replace HA := Aside0.mk (HA.out.step XA.out UXA.out hP hf)
  clear hP hf y0 y1 y2 y3 y4 y5
  go_wp2_with fail
  refine (pr_restart HA.out.P HR.out).mono ?_
  rintro e w3 ⟨rfl, hP, hf⟩
  replace HA := Aside0.mk (HA.out.step XA.out UXA.out hP hf)
  clear hP hf
  go_wp2_with fail
  go_ret
  rw [SE.out]
  exact ⟨rfl, HA.out.P.less (fun k q => .inl q), HA.out.K, HA.out.H⟩
set_option maxRecDepth 100000 in
set_option maxHeartbeats 16000000 in
theorem does_6 {w0 w : World} {n0 gd gr np cp m : Nat} {X UX : Nat → Prop} {s : DS} {Ap : Option Addr} {ps : List Int} (a0 a1 a2 a3 a4 : Int) (hP : Pair w gd gr X s s) (hs : Sok m s) (hm : m ≤ 120) (hX : Kd.F (Kd.int .u8) w UX Ap np ps) (hUX : ∀ k, UX k → X k) (hn : ps.length = np) (hcp : np ≤ cp) (hnb : np ≤ 140737488351232) (hK : Below n0 w0 w) (hX0 : ∀ i, i < n0 → X i) (hn0 : n0 ≤ w.heap.size) (hx : a0 ≠ 0 ∧ a0 ≠ 1 ∧ a0 ≠ 2 ∧ a0 ≠ 3 ∧ a0 ≠ 4 ∧ a0 ≠ 5) :
    Calls Try.prog 37 #[.pointer (some ⟨gd, 0, none⟩), .pointer (some ⟨gr, 0, none⟩), .agg #[.int .i64 a0, .int .i64 a1, .int .u8 a2, .int .i64 a3, .int .i64 a4, .slice Ap np cp]] w fun e w' => e = .returned (.bool true) ∧ Pair w' gd gr X (stepD s ⟨a0, a1, a2, a3, a4, ps⟩) (stepD s ⟨a0, a1, a2, a3, a4, ps⟩) ∧ Below n0 w0 w' ∧ ∀ k, X k → w'.heap[k]? = w.heap[k]? := by
  have HS := Aside0.mk hs
  have HM := Aside0.mk hm
  have UXA := Aside0.mk hUX
  have XA := Aside0.mk hX0
  have NA := Aside0.mk hn
  have CA := Aside0.mk hcp
  have BA := Aside0.mk hnb
  have XN := Aside0.mk (heap_new w (.cells #[.int .i64 a0, .int .i64 a1, .int .u8 a2, .int .i64 a3, .int .i64 a4, .slice Ap np cp] 29))
  have XB := (Below.refl w.heap.size w).alloc (Nat.le_refl _) (.cells #[.int .i64 a0, .int .i64 a1, .int .u8 a2, .int .i64 a3, .int .i64 a4, .slice Ap np cp] 29)
  have HA := Aside0.mk (show Amid w w0 (w.alloc (.cells #[.int .i64 a0, .int .i64 a1, .int .u8 a2, .int .i64 a3, .int .i64 a4, .slice Ap np cp] 29)) n0 w.heap.size gd gr X UX s s _ Ap np ps from ⟨hP.add XB ⟨Nat.le_refl _, by simp⟩, XN.out, Kd.F_below hX XB, hK.trans (XB.mono hn0), Nat.le_trans hn0 XB.size, fun k q => XB.block k (hP.xlt k q)⟩)
  obtain ⟨w1, hw1⟩ : ∃ y, y = w.alloc (.cells #[.int .i64 a0, .int .i64 a1, .int .u8 a2, .int .i64 a3, .int .i64 a4, .slice Ap np cp] 29) := ⟨_, rfl⟩
  obtain ⟨g5, hg5⟩ : ∃ y, y = w.heap.size := ⟨_, rfl⟩
  have G5 := Aside0.mk (show n0 ≤ g5 ∧ ¬ UX g5 from by rw [hg5]; exact ⟨hn0, fun q => by obtain ⟨_, _, _, _, _, _, _, q6⟩ := hP; exact Nat.lt_irrefl _ (q6 _ (hUX _ q))⟩)
  rw [← hw1, ← hg5] at HA
  obtain ⟨y0, y1, y2, y3, y4, y5⟩ := six_cells HA.out.G
  have W1 := Aside0.mk hw1
  have G1 := Aside0.mk hg5
  have e0 := eqz hx.1
  have e1 := eqz hx.2.1
  have e2 := eqz hx.2.2.1
  have e3 := eqz hx.2.2.2.1
  have e4 := eqz hx.2.2.2.2.1
  have e5 := eqz hx.2.2.2.2.2
  have HX := Aside0.mk hx
  clear hx
  clear XN XB hP hs hm hX hUX hn hcp hnb hK hX0 hn0
  rw [hw1, hg5] at y0 y1 y2 y3 y4 y5
  clear hw1 hg5
  go_enter Try.func37, Try.ntmps37
  go_wp2_with fail
  go_ret
  have SE : stepD s ⟨a0, a1, a2, a3, a4, ps⟩ = s := by
    unfold stepD
    obtain ⟨q0, q1, q2, q3, q4, q5⟩ := HX.out
    rw [if_neg q0, if_neg q1, if_neg q2, if_neg q3, if_neg q4]
  rw [SE, ← W1.out]
  exact ⟨rfl, HA.out.P.less (fun k q => .inl q), HA.out.K, HA.out.H⟩
set_option maxRecDepth 100000 in
set_option maxHeartbeats 16000000 in
theorem does_2 {w0 w : World} {n0 gd gr np cp m : Nat} {X UX : Nat → Prop} {s : DS} {Ap : Option Addr} {ps : List Int} (a0 a1 a2 a3 a4 : Int) (hP : Pair w gd gr X s s) (hs : Sok m s) (hm : m ≤ 120) (hX : Kd.F (Kd.int .u8) w UX Ap np ps) (hUX : ∀ k, UX k → X k) (hn : ps.length = np) (hcp : np ≤ cp) (hnb : np ≤ 140737488351232) (hK : Below n0 w0 w) (hX0 : ∀ i, i < n0 → X i) (hn0 : n0 ≤ w.heap.size) (h2 : a0 = 2) :
    Calls Try.prog 37 #[.pointer (some ⟨gd, 0, none⟩), .pointer (some ⟨gr, 0, none⟩), .agg #[.int .i64 a0, .int .i64 a1, .int .u8 a2, .int .i64 a3, .int .i64 a4, .slice Ap np cp]] w fun e w' => e = .returned (.bool true) ∧ Pair w' gd gr X (stepD s ⟨a0, a1, a2, a3, a4, ps⟩) (stepD s ⟨a0, a1, a2, a3, a4, ps⟩) ∧ Below n0 w0 w' ∧ ∀ k, X k → w'.heap[k]? = w.heap[k]? := by
  have HS := Aside0.mk hs
  have HM := Aside0.mk hm
  have UXA := Aside0.mk hUX
  have XA := Aside0.mk hX0
  have NA := Aside0.mk hn
  have CA := Aside0.mk hcp
  have BA := Aside0.mk hnb
  subst h2
  have XN := Aside0.mk (heap_new w (.cells #[.int .i64 2, .int .i64 a1, .int .u8 a2, .int .i64 a3, .int .i64 a4, .slice Ap np cp] 29))
  have XB := (Below.refl w.heap.size w).alloc (Nat.le_refl _) (.cells #[.int .i64 2, .int .i64 a1, .int .u8 a2, .int .i64 a3, .int .i64 a4, .slice Ap np cp] 29)
  have HA := Aside0.mk (show Amid w w0 (w.alloc (.cells #[.int .i64 2, .int .i64 a1, .int .u8 a2, .int .i64 a3, .int .i64 a4, .slice Ap np cp] 29)) n0 w.heap.size gd gr X UX s s _ Ap np ps from ⟨hP.add XB ⟨Nat.le_refl _, by simp⟩, XN.out, Kd.F_below hX XB, hK.trans (XB.mono hn0), Nat.le_trans hn0 XB.size, fun k q => XB.block k (hP.xlt k q)⟩)
  obtain ⟨w1, hw1⟩ : ∃ y, y = w.alloc (.cells #[.int .i64 2, .int .i64 a1, .int .u8 a2, .int .i64 a3, .int .i64 a4, .slice Ap np cp] 29) := ⟨_, rfl⟩
  obtain ⟨g5, hg5⟩ : ∃ y, y = w.heap.size := ⟨_, rfl⟩
  have G5 := Aside0.mk (show n0 ≤ g5 ∧ ¬ UX g5 from by rw [hg5]; exact ⟨hn0, fun q => by obtain ⟨_, _, _, _, _, _, _, q6⟩ := hP; exact Nat.lt_irrefl _ (q6 _ (hUX _ q))⟩)
  rw [← hw1, ← hg5] at HA
  obtain ⟨y0, y1, y2, y3, y4, y5⟩ := six_cells HA.out.G
  have W1 := Aside0.mk hw1
  have G1 := Aside0.mk hg5
  clear XN XB hP hs hm hX hUX hn hcp hnb hK hX0 hn0
  rw [hw1, hg5] at y0 y1 y2 y3 y4 y5
  clear hw1 hg5
  go_enter Try.func37, Try.ntmps37
  go_wp2_with fail
  rw [← W1.out, ← G1.out]
  clear W1 G1 y0 y1 y2 y3 y4 y5
  obtain ⟨y0, y1, y2, y3, y4, y5⟩ := six_cells HA.out.G
  obtain ⟨r, s', hr⟩ : ∃ r s', armS s a4 ps = (r, s') := ⟨_, _, rfl⟩
  have SE := Aside0.mk (show stepD s ⟨2, a1, a2, a3, a4, ps⟩ = s' from by unfold stepD; rw [if_neg (show ¬ (2 : Int) = 0 by decide)]; rw [if_neg (show ¬ (2 : Int) = 1 by decide)]; rw [if_pos rfl, hr])
  have HR := Aside0.mk hr
  clear hr
  replace HA := Aside0.mk (HA.out.below (below_drew (Below.refl _ _)))
  go_region_held3 (fun w' => w'.cell? ⟨g5, 4, none⟩ = some (.int .i64 a4) ∧ w'.cell? ⟨g5, 5, none⟩ = some (.slice Ap np cp)) (go_keep)
    (first
      | (go_at_call 29; refine (pk_arm HA.out.P a4 HA.out.R BA.out HR.out).mono ?_; rintro e w2 ⟨rfl, hP, hf⟩; replace HA := Aside0.mk (HA.out.step XA.out UXA.out hP hf); clear hP hf y0 y1 y2 y3 y4 y5; obtain ⟨y0, y1, y2, y3, y4, y5⟩ := six_cells HA.out.G)
      | (go_at_call 68; refine (pr_arm HA.out.P a4 HA.out.R (fun q hq => .inl (UXA.out q hq)) BA.out HR.out).mono ?_; rintro e w2 ⟨rfl, hP, hf⟩; replace HA := Aside0.mk (HA.out.step XA.out UXA.out hP hf); clear hP hf y0 y1 y2 y3 y4 y5; obtain ⟨y0, y1, y2, y3, y4, y5⟩ := six_cells HA.out.G))
  all_goals
    go_wp2_with fail
    go_ret
    rw [SE.out]
    exact ⟨rfl, HA.out.P.less (fun k q => .inl q), HA.out.K, HA.out.H⟩
set_option maxRecDepth 100000 in
set_option maxHeartbeats 16000000 in
theorem does_3 {w0 w : World} {n0 gd gr np cp m : Nat} {X UX : Nat → Prop} {s : DS} {Ap : Option Addr} {ps : List Int} (a0 a1 a2 a3 a4 : Int) (hP : Pair w gd gr X s s) (hs : Sok m s) (hm : m ≤ 120) (hX : Kd.F (Kd.int .u8) w UX Ap np ps) (hUX : ∀ k, UX k → X k) (hn : ps.length = np) (hcp : np ≤ cp) (hnb : np ≤ 140737488351232) (hK : Below n0 w0 w) (hX0 : ∀ i, i < n0 → X i) (hn0 : n0 ≤ w.heap.size) (h3 : a0 = 3) :
    Calls Try.prog 37 #[.pointer (some ⟨gd, 0, none⟩), .pointer (some ⟨gr, 0, none⟩), .agg #[.int .i64 a0, .int .i64 a1, .int .u8 a2, .int .i64 a3, .int .i64 a4, .slice Ap np cp]] w fun e w' => e = .returned (.bool true) ∧ Pair w' gd gr X (stepD s ⟨a0, a1, a2, a3, a4, ps⟩) (stepD s ⟨a0, a1, a2, a3, a4, ps⟩) ∧ Below n0 w0 w' ∧ ∀ k, X k → w'.heap[k]? = w.heap[k]? := by
  have HS := Aside0.mk hs
  have HM := Aside0.mk hm
  have UXA := Aside0.mk hUX
  have XA := Aside0.mk hX0
  have NA := Aside0.mk hn
  have CA := Aside0.mk hcp
  have BA := Aside0.mk hnb
  subst h3
  have XN := Aside0.mk (heap_new w (.cells #[.int .i64 3, .int .i64 a1, .int .u8 a2, .int .i64 a3, .int .i64 a4, .slice Ap np cp] 29))
  have XB := (Below.refl w.heap.size w).alloc (Nat.le_refl _) (.cells #[.int .i64 3, .int .i64 a1, .int .u8 a2, .int .i64 a3, .int .i64 a4, .slice Ap np cp] 29)
  have HA := Aside0.mk (show Amid w w0 (w.alloc (.cells #[.int .i64 3, .int .i64 a1, .int .u8 a2, .int .i64 a3, .int .i64 a4, .slice Ap np cp] 29)) n0 w.heap.size gd gr X UX s s _ Ap np ps from ⟨hP.add XB ⟨Nat.le_refl _, by simp⟩, XN.out, Kd.F_below hX XB, hK.trans (XB.mono hn0), Nat.le_trans hn0 XB.size, fun k q => XB.block k (hP.xlt k q)⟩)
  obtain ⟨w1, hw1⟩ : ∃ y, y = w.alloc (.cells #[.int .i64 3, .int .i64 a1, .int .u8 a2, .int .i64 a3, .int .i64 a4, .slice Ap np cp] 29) := ⟨_, rfl⟩
  obtain ⟨g5, hg5⟩ : ∃ y, y = w.heap.size := ⟨_, rfl⟩
  have G5 := Aside0.mk (show n0 ≤ g5 ∧ ¬ UX g5 from by rw [hg5]; exact ⟨hn0, fun q => by obtain ⟨_, _, _, _, _, _, _, q6⟩ := hP; exact Nat.lt_irrefl _ (q6 _ (hUX _ q))⟩)
  rw [← hw1, ← hg5] at HA
  obtain ⟨y0, y1, y2, y3, y4, y5⟩ := six_cells HA.out.G
  have W1 := Aside0.mk hw1
  have G1 := Aside0.mk hg5
  clear XN XB hP hs hm hX hUX hn hcp hnb hK hX0 hn0
  rw [hw1, hg5] at y0 y1 y2 y3 y4 y5
  clear hw1 hg5
  go_enter Try.func37, Try.ntmps37
  go_wp2_with fail
  rw [← W1.out, ← G1.out]
  clear W1 G1 y0 y1 y2 y3 y4 y5
  obtain ⟨y0, y1, y2, y3, y4, y5⟩ := six_cells HA.out.G
  obtain ⟨r, s', hr⟩ : ∃ r s', crashS s ps = (r, s') := ⟨_, _, rfl⟩
  have SE := Aside0.mk (show stepD s ⟨3, a1, a2, a3, a4, ps⟩ = s' from by unfold stepD; rw [if_neg (show ¬ (3 : Int) = 0 by decide)]; rw [if_neg (show ¬ (3 : Int) = 1 by decide)]; rw [if_neg (show ¬ (3 : Int) = 2 by decide)]; rw [if_pos rfl, hr])
  have HR := Aside0.mk hr
  clear hr
  replace HA := Aside0.mk (HA.out.below (below_drew (Below.refl _ _)))
  go_region_held3 (fun w' => w'.cell? ⟨g5, 5, none⟩ = some (.slice Ap np cp)) (go_keep)
    (first
      | (go_at_call 23; refine (pk_crash HA.out.P HA.out.R (fun q hq => .inl (UXA.out q hq)) NA.out CA.out HR.out).mono ?_; rintro e w2 ⟨rfl, hP, hf⟩; replace HA := Aside0.mk (HA.out.step XA.out UXA.out hP hf); clear hP hf y0 y1 y2 y3 y4 y5; obtain ⟨y0, y1, y2, y3, y4, y5⟩ := six_cells HA.out.G)
      | (go_at_call 69; refine (pr_crash HA.out.P HS.out HM.out HA.out.R (fun q hq => .inl (UXA.out q hq)) NA.out HR.out).mono ?_; rintro e w2 ⟨rfl, hP, hf⟩; replace HA := Aside0.mk (HA.out.step XA.out UXA.out hP hf); clear hP hf y0 y1 y2 y3 y4 y5; obtain ⟨y0, y1, y2, y3, y4, y5⟩ := six_cells HA.out.G))
  all_goals
    go_wp2_with fail
    go_ret
    rw [SE.out]
    exact ⟨rfl, HA.out.P.less (fun k q => .inl q), HA.out.K, HA.out.H⟩
set_option maxRecDepth 100000 in
set_option maxHeartbeats 16000000 in
theorem does_0 {w0 w : World} {n0 gd gr np cp m : Nat} {X UX : Nat → Prop} {s : DS} {Ap : Option Addr} {ps : List Int} (a0 a1 a2 a3 a4 : Int) (hP : Pair w gd gr X s s) (hs : Sok m s) (hm : m ≤ 120) (hX : Kd.F (Kd.int .u8) w UX Ap np ps) (hUX : ∀ k, UX k → X k) (hn : ps.length = np) (hcp : np ≤ cp) (hnb : np ≤ 140737488351232) (hK : Below n0 w0 w) (hX0 : ∀ i, i < n0 → X i) (hn0 : n0 ≤ w.heap.size) (h0 : a0 = 0) :
    Calls Try.prog 37 #[.pointer (some ⟨gd, 0, none⟩), .pointer (some ⟨gr, 0, none⟩), .agg #[.int .i64 a0, .int .i64 a1, .int .u8 a2, .int .i64 a3, .int .i64 a4, .slice Ap np cp]] w fun e w' => e = .returned (.bool true) ∧ Pair w' gd gr X (stepD s ⟨a0, a1, a2, a3, a4, ps⟩) (stepD s ⟨a0, a1, a2, a3, a4, ps⟩) ∧ Below n0 w0 w' ∧ ∀ k, X k → w'.heap[k]? = w.heap[k]? := by
  have HS := Aside0.mk hs
  have HM := Aside0.mk hm
  have UXA := Aside0.mk hUX
  have XA := Aside0.mk hX0
  have NA := Aside0.mk hn
  have CA := Aside0.mk hcp
  have BA := Aside0.mk hnb
  subst h0
  have XN := Aside0.mk (heap_new w (.cells #[.int .i64 0, .int .i64 a1, .int .u8 a2, .int .i64 a3, .int .i64 a4, .slice Ap np cp] 29))
  have XB := (Below.refl w.heap.size w).alloc (Nat.le_refl _) (.cells #[.int .i64 0, .int .i64 a1, .int .u8 a2, .int .i64 a3, .int .i64 a4, .slice Ap np cp] 29)
  have HA := Aside0.mk (show Amid w w0 (w.alloc (.cells #[.int .i64 0, .int .i64 a1, .int .u8 a2, .int .i64 a3, .int .i64 a4, .slice Ap np cp] 29)) n0 w.heap.size gd gr X UX s s _ Ap np ps from ⟨hP.add XB ⟨Nat.le_refl _, by simp⟩, XN.out, Kd.F_below hX XB, hK.trans (XB.mono hn0), Nat.le_trans hn0 XB.size, fun k q => XB.block k (hP.xlt k q)⟩)
  obtain ⟨w1, hw1⟩ : ∃ y, y = w.alloc (.cells #[.int .i64 0, .int .i64 a1, .int .u8 a2, .int .i64 a3, .int .i64 a4, .slice Ap np cp] 29) := ⟨_, rfl⟩
  obtain ⟨g5, hg5⟩ : ∃ y, y = w.heap.size := ⟨_, rfl⟩
  have G5 := Aside0.mk (show n0 ≤ g5 ∧ ¬ UX g5 from by rw [hg5]; exact ⟨hn0, fun q => by obtain ⟨_, _, _, _, _, _, _, q6⟩ := hP; exact Nat.lt_irrefl _ (q6 _ (hUX _ q))⟩)
  rw [← hw1, ← hg5] at HA
  obtain ⟨y0, y1, y2, y3, y4, y5⟩ := six_cells HA.out.G
  have W1 := Aside0.mk hw1
  have G1 := Aside0.mk hg5
  clear XN XB hP hs hm hX hUX hn hcp hnb hK hX0 hn0
  rw [hw1, hg5] at y0 y1 y2 y3 y4 y5
  clear hw1 hg5
  go_enter Try.func37, Try.ntmps37
  go_wp2_with fail
  rw [← W1.out, ← G1.out]
  clear W1 G1 y0 y1 y2 y3 y4 y5
  obtain ⟨y0, y1, y2, y3, y4, y5⟩ := six_cells HA.out.G
  obtain ⟨b, hbk⟩ : ∃ b, b = blockL a2 a3 := ⟨_, rfl⟩
  obtain ⟨nb, hnb⟩ : ∃ n, b.length = n := ⟨_, rfl⟩
  obtain ⟨r, s', hr⟩ : ∃ r s', writeS s a1 b = (r, s') := ⟨_, _, rfl⟩
  have SE := Aside0.mk (show stepD s ⟨0, a1, a2, a3, a4, ps⟩ = s' from by unfold stepD; rw [if_pos rfl, show (⟨0, a1, a2, a3, a4, ps⟩ : SOp).blk = a1 from rfl, show blockL (⟨0, a1, a2, a3, a4, ps⟩ : SOp).fill (⟨0, a1, a2, a3, a4, ps⟩ : SOp).len = b from hbk.symm, hr])
  have HR := Aside0.mk hr
  have BYT := Aside0.mk (show Bytes b from by rw [hbk]; exact blockL_bytes a2 a3)
  have NBL := Aside0.mk (show nb ≤ 600 from by rw [← hnb, hbk]; exact blockL_len a2 a3)
  have LEN := Aside0.mk hnb
  refine (block_c w1 0 a1 a2 a3 a4 (.slice Ap np cp)).mono ?_
  rintro e w2 ⟨gY, rfl, hO, hb⟩
  rw [← hbk] at hO ⊢
  rw [hnb] at hO ⊢
  have OF := Aside0.mk (show ∀ q, OwnF (some ⟨gY, 0, none⟩) b q → w1.heap.size ≤ q from fun q hq => (ownF_lt hO q hq).1)
  have FAR := Aside0.mk (fun (q : Nat) (hq : w1.heap.size ≤ q) => HA.out.far UXA.out hq)
  have P6 := Aside0.mk (HA.out.P.addF (F := OwnF (some ⟨gY, 0, none⟩) b) hb (fun q hq => ownF_lt hO q hq))
  replace HA := Aside0.mk (HA.out.below hb)
  have O6 := Aside0.mk hO
  clear hr hnb hbk hb hO y0 y1 y2 y3 y4 y5
  obtain ⟨y0, y1, y2, y3, y4, y5⟩ := six_cells HA.out.G
  go_wp2_with fail
  have hd := below_drew (Below.refl w2.heap.size w2)
  replace HA := Aside0.mk (HA.out.below hd)
  replace P6 := Aside0.mk (P6.out.below hd)
  replace O6 := Aside0.mk (own_below O6.out hd)
  clear hd
  go_region_held3 (fun w' => w'.cell? ⟨g5, 1, none⟩ = some (.int .i64 a1)) (go_keep)
    (first
      | (go_at_call 16; refine (pk_write P6.out HS.out HM.out a1 (own_F3 O6.out LEN.out) (fun k q => .inr q) LEN.out BYT.out (Nat.le_refl _) HR.out).mono ?_; rintro e w9 ⟨rfl, hP, hf⟩; replace HA := Aside0.mk (HA.out.step XA.out UXA.out (hP.less (fun k q => .inl q)) (hf.mono (fun k q z => q (.inl z)))); replace P6 := Aside0.mk hP; replace O6 := Aside0.mk (own_fr O6.out hf (fun q hp hA z => z (.inr ⟨hp, hA⟩))); clear hP hf y0 y1 y2 y3 y4 y5; obtain ⟨y0, y1, y2, y3, y4, y5⟩ := six_cells HA.out.G)
      | (go_at_call 66; refine (pr_write P6.out HS.out HM.out a1 (own_F3 O6.out LEN.out) LEN.out BYT.out HR.out).mono ?_; rintro e w9 ⟨rfl, hP, hf⟩; replace HA := Aside0.mk (HA.out.step XA.out UXA.out (hP.less (fun k q => .inl q)) (hf.mono (fun k q z => q (.inl z)))); replace P6 := Aside0.mk hP; replace O6 := Aside0.mk (own_fr O6.out hf (fun q hp hA z => z (.inr ⟨hp, hA⟩))); clear hP hf y0 y1 y2 y3 y4 y5; obtain ⟨y0, y1, y2, y3, y4, y5⟩ := six_cells HA.out.G))
  clear y0 y1 y2 y3 y4 y5
  go_wp2_with fail
  go_loopg [35] nb (fun q v w' => ∃ (k : Nat) (l' : List Int), v = .int .i64 (k : Int) ∧ Aside0 (k + q = nb) ∧ Aside0 (Own w' 0 (some ⟨gY, 0, none⟩) nb l') ∧ Aside0 (l'.length = nb) ∧ Aside0 (Fr (OwnF (some ⟨gY, 0, none⟩) b) w9 w'))
  case atStart => exact ⟨0, b, rfl, ⟨Nat.zero_add _⟩, ⟨own_lower O6.out (Nat.zero_le _)⟩, LEN, ⟨Fr.refl _ _⟩⟩
  case round =>
    obtain ⟨k, l', rfl, HJ, OL, LL, FF⟩ := hrel
    by_cases hlt : k < nb
    case pos =>
      have hgd : decide ((k : Int) < (nb : Int)) = true := (di_t hlt).1
      have hgd2 : decide (k < nb) = true := (di_t hlt).2
      have HN1 := Aside0.mk (st_n HJ.out hlt).1
      have HM1 := Aside0.mk (st_n HJ.out hlt).2
      have HV := Aside0.mk (stepv hlt (by have := NBL.out; omega))
      have hkl : k < l'.length := by rw [LL.out]; exact hlt
      have hFY : OwnF (some ⟨gY, 0, none⟩) b gY := ⟨by rw [LEN.out]; omega, rfl⟩
      obtain ⟨c0, f0⟩ := own_cell OL.out hkl
      have ON := Aside0.mk (own_set OL.out hkl 77)
      have LN := Aside0.mk (show (l'.set k 77).length = nb from by rw [List.length_set]; exact LL.out)
      have FN := Aside0.mk (FF.out.set (p := ⟨gY, k, none⟩) hFY (.int .u8 77))
      clear hFY
      go_wp2_with fail
      go_roundg (gk - 1)
      case measure => exact HM1.out
      case rel => exact ⟨k + 1, _, by first | exact HV.out | rfl, HN1, ON, LN, FN⟩
    have hke : k = nb := en_k HJ.out hlt
    obtain ⟨hgd, hgd2⟩ := nlt_f hlt
    replace HA := Aside0.mk (HA.out.overF P6.out (fun q hq => FAR.out q (OF.out q hq)) FF.out)
    clear hlt hke
    go_wp2_with fail
    go_ret
    rw [SE.out]
    exact ⟨rfl, HA.out.P.less (fun k q => .inl q), HA.out.K, HA.out.H⟩
set_option maxRecDepth 100000 in
set_option maxHeartbeats 16000000 in
theorem does_5 {w0 w : World} {n0 gd gr np cp m : Nat} {X UX : Nat → Prop} {s : DS} {Ap : Option Addr} {ps : List Int} (a0 a1 a2 a3 a4 : Int) (hP : Pair w gd gr X s s) (hs : Sok m s) (hm : m ≤ 120) (hX : Kd.F (Kd.int .u8) w UX Ap np ps) (hUX : ∀ k, UX k → X k) (hn : ps.length = np) (hcp : np ≤ cp) (hnb : np ≤ 140737488351232) (hK : Below n0 w0 w) (hX0 : ∀ i, i < n0 → X i) (hn0 : n0 ≤ w.heap.size) (h5 : a0 = 5) :
    Calls Try.prog 37 #[.pointer (some ⟨gd, 0, none⟩), .pointer (some ⟨gr, 0, none⟩), .agg #[.int .i64 a0, .int .i64 a1, .int .u8 a2, .int .i64 a3, .int .i64 a4, .slice Ap np cp]] w fun e w' => e = .returned (.bool true) ∧ Pair w' gd gr X (stepD s ⟨a0, a1, a2, a3, a4, ps⟩) (stepD s ⟨a0, a1, a2, a3, a4, ps⟩) ∧ Below n0 w0 w' ∧ ∀ k, X k → w'.heap[k]? = w.heap[k]? := by
  have HS := Aside0.mk hs
  have HM := Aside0.mk hm
  have UXA := Aside0.mk hUX
  have XA := Aside0.mk hX0
  have NA := Aside0.mk hn
  have CA := Aside0.mk hcp
  have BA := Aside0.mk hnb
  subst h5
  have XN := Aside0.mk (heap_new w (.cells #[.int .i64 5, .int .i64 a1, .int .u8 a2, .int .i64 a3, .int .i64 a4, .slice Ap np cp] 29))
  have XB := (Below.refl w.heap.size w).alloc (Nat.le_refl _) (.cells #[.int .i64 5, .int .i64 a1, .int .u8 a2, .int .i64 a3, .int .i64 a4, .slice Ap np cp] 29)
  have HA := Aside0.mk (show Amid w w0 (w.alloc (.cells #[.int .i64 5, .int .i64 a1, .int .u8 a2, .int .i64 a3, .int .i64 a4, .slice Ap np cp] 29)) n0 w.heap.size gd gr X UX s s _ Ap np ps from ⟨hP.add XB ⟨Nat.le_refl _, by simp⟩, XN.out, Kd.F_below hX XB, hK.trans (XB.mono hn0), Nat.le_trans hn0 XB.size, fun k q => XB.block k (hP.xlt k q)⟩)
  obtain ⟨w1, hw1⟩ : ∃ y, y = w.alloc (.cells #[.int .i64 5, .int .i64 a1, .int .u8 a2, .int .i64 a3, .int .i64 a4, .slice Ap np cp] 29) := ⟨_, rfl⟩
  obtain ⟨g5, hg5⟩ : ∃ y, y = w.heap.size := ⟨_, rfl⟩
  have G5 := Aside0.mk (show n0 ≤ g5 ∧ ¬ UX g5 from by rw [hg5]; exact ⟨hn0, fun q => by obtain ⟨_, _, _, _, _, _, _, q6⟩ := hP; exact Nat.lt_irrefl _ (q6 _ (hUX _ q))⟩)
  rw [← hw1, ← hg5] at HA
  obtain ⟨y0, y1, y2, y3, y4, y5⟩ := six_cells HA.out.G
  have W1 := Aside0.mk hw1
  have G1 := Aside0.mk hg5
  clear XN XB hP hs hm hX hUX hn hcp hnb hK hX0 hn0
  rw [hw1, hg5] at y0 y1 y2 y3 y4 y5
  clear hw1 hg5
  go_enter Try.func37, Try.ntmps37
  go_wp2_with fail
  rw [← W1.out, ← G1.out]
  clear W1 G1 y0 y1 y2 y3 y4 y5
  obtain ⟨y0, y1, y2, y3, y4, y5⟩ := six_cells HA.out.G
  obtain ⟨r, b, hr⟩ : ∃ r b, readS s a1 = (r, b) := ⟨_, _, rfl⟩
  obtain ⟨nb, hnb⟩ : ∃ n, b.length = n := ⟨_, rfl⟩
  have SE := Aside0.mk (show stepD s ⟨5, a1, a2, a3, a4, ps⟩ = s from by unfold stepD; rw [if_neg (show ¬ (5 : Int) = 0 by decide), if_neg (show ¬ (5 : Int) = 1 by decide), if_neg (show ¬ (5 : Int) = 2 by decide), if_neg (show ¬ (5 : Int) = 3 by decide), if_neg (show ¬ (5 : Int) = 4 by decide)])
  have HR := Aside0.mk hr
  have BYT := Aside0.mk (readS_by HA.out.P.ok.1 HA.out.P.ok.2 hr)
  have NBL := Aside0.mk (readS_len HA.out.P.ok.1 HA.out.P.ok.2 hr hnb)
  have LEN := Aside0.mk hnb
  clear hr
  refine (pk_read HA.out.P HS.out HM.out a1 HR.out).mono ?_
  rintro e w2 ⟨Y1, d1, rfl, hO, hb⟩
  rw [hnb]
  have OF := Aside0.mk (show ∀ q, OwnF Y1 b q → w1.heap.size ≤ q from fun q hq => (ownF_lt hO q hq).1)
  have FAR := Aside0.mk (fun (q : Nat) (hq : w1.heap.size ≤ q) => HA.out.far UXA.out hq)
  have P6 := Aside0.mk (HA.out.P.addF (F := OwnF Y1 b) hb (fun q hq => ownF_lt hO q hq))
  replace HA := Aside0.mk (HA.out.below hb)
  have O6 := Aside0.mk hO
  clear hb hO y0 y1 y2 y3 y4 y5
  obtain ⟨y0, y1, y2, y3, y4, y5⟩ := six_cells HA.out.G
  go_wp2_with fail
  refine (pr_read HA.out.P HS.out HM.out a1 HR.out).mono ?_
  rintro e w3 ⟨Y2, d2, rfl, hO, hb⟩
  rw [hnb]
  have O7 := Aside0.mk hO
  replace P6 := Aside0.mk (P6.out.below hb)
  replace HA := Aside0.mk (HA.out.below hb)
  replace O6 := Aside0.mk (own_below O6.out hb)
  clear hb hO y0 y1 y2 y3 y4 y5 hnb
  go_wp2_with fail
  refine (eq_own O6.out O7.out rfl LEN.out BYT.out).mono ?_
  rintro e w9 ⟨rfl, hb⟩
  replace P6 := Aside0.mk (P6.out.below hb)
  replace HA := Aside0.mk (HA.out.below hb)
  replace O6 := Aside0.mk (own_below O6.out hb)
  clear hb O7
  go_wp2_with fail
  go_loopg [109] nb (fun q v w' => ∃ (k : Nat) (l' : List Int), v = .int .i64 (k : Int) ∧ Aside0 (k + q = nb) ∧ Aside0 (Own w' 0 Y1 d1 l') ∧ Aside0 (l'.length = nb) ∧ Aside0 (Fr (OwnF Y1 b) w9 w'))
  case atStart => exact ⟨0, b, rfl, ⟨Nat.zero_add _⟩, ⟨own_lower O6.out (Nat.zero_le _)⟩, LEN, ⟨Fr.refl _ _⟩⟩
  case round =>
    obtain ⟨k, l', rfl, HJ, OL, LL, FF⟩ := hrel
    by_cases hlt : k < nb
    case pos =>
      have hgd : decide ((k : Int) < (nb : Int)) = true := (di_t hlt).1
      have hgd2 : decide (k < nb) = true := (di_t hlt).2
      have HN1 := Aside0.mk (st_n HJ.out hlt).1
      have HM1 := Aside0.mk (st_n HJ.out hlt).2
      have HV := Aside0.mk (stepv hlt (by have := NBL.out; omega))
      have hkl : k < l'.length := by rw [LL.out]; exact hlt
      obtain ⟨gY, cur, eY, _, _, _⟩ := OL.out.blk (by rw [LL.out]; omega)
      subst eY
      have hFY : OwnF (some ⟨gY, 0, none⟩) b gY := ⟨by rw [LEN.out]; omega, rfl⟩
      obtain ⟨c0, f0⟩ := own_cell OL.out hkl
      have ON := Aside0.mk (own_set OL.out hkl 78)
      have LN := Aside0.mk (show (l'.set k 78).length = nb from by rw [List.length_set]; exact LL.out)
      have FN := Aside0.mk (FF.out.set (p := ⟨gY, k, none⟩) hFY (.int .u8 78))
      clear hFY
      go_wp2_with fail
      go_roundg (gk - 1)
      case measure => exact HM1.out
      case rel => exact ⟨k + 1, _, by first | exact HV.out | rfl, HN1, ON, LN, FN⟩
    have hke : k = nb := en_k HJ.out hlt
    obtain ⟨hgd, hgd2⟩ := nlt_f hlt
    replace HA := Aside0.mk (HA.out.overF P6.out (fun q hq => FAR.out q (OF.out q hq)) FF.out)
    clear hlt hke
    go_wp2_with fail
    go_ret
    rw [SE.out]
    exact ⟨rfl, HA.out.P.less (fun k q => .inl q), HA.out.K, HA.out.H⟩
theorem does_c {w0 w : World} {n0 gd gr np cp m : Nat} {X UX : Nat → Prop} {s : DS} {Ap : Option Addr} {ps : List Int} (a0 a1 a2 a3 a4 : Int) (hP : Pair w gd gr X s s) (hs : Sok m s) (hm : m ≤ 120) (hX : Kd.F (Kd.int .u8) w UX Ap np ps) (hUX : ∀ k, UX k → X k) (hn : ps.length = np) (hcp : np ≤ cp) (hnb : np ≤ 140737488351232) (hK : Below n0 w0 w) (hX0 : ∀ i, i < n0 → X i) (hn0 : n0 ≤ w.heap.size) :
    Calls Try.prog 37 #[.pointer (some ⟨gd, 0, none⟩), .pointer (some ⟨gr, 0, none⟩), .agg #[.int .i64 a0, .int .i64 a1, .int .u8 a2, .int .i64 a3, .int .i64 a4, .slice Ap np cp]] w fun e w' => e = .returned (.bool true) ∧ Pair w' gd gr X (stepD s ⟨a0, a1, a2, a3, a4, ps⟩) (stepD s ⟨a0, a1, a2, a3, a4, ps⟩) ∧ Below n0 w0 w' ∧ ∀ k, X k → w'.heap[k]? = w.heap[k]? := by
  by_cases h0 : a0 = 0
  · exact does_0 a0 a1 a2 a3 a4 hP hs hm hX hUX hn hcp hnb hK hX0 hn0 h0
  by_cases h1 : a0 = 1
  · exact does_1 a0 a1 a2 a3 a4 hP hs hm hX hUX hn hcp hnb hK hX0 hn0 h1
  by_cases h2 : a0 = 2
  · exact does_2 a0 a1 a2 a3 a4 hP hs hm hX hUX hn hcp hnb hK hX0 hn0 h2
  by_cases h3 : a0 = 3
  · exact does_3 a0 a1 a2 a3 a4 hP hs hm hX hUX hn hcp hnb hK hX0 hn0 h3
  by_cases h4 : a0 = 4
  · exact does_4 a0 a1 a2 a3 a4 hP hs hm hX hUX hn hcp hnb hK hX0 hn0 h4
  by_cases h5 : a0 = 5
  · exact does_5 a0 a1 a2 a3 a4 hP hs hm hX hUX hn hcp hnb hK hX0 hn0 h5
  exact does_6 a0 a1 a2 a3 a4 hP hs hm hX hUX hn hcp hnb hK hX0 hn0 ⟨h0, h1, h2, h3, h4, h5⟩
end Go.Proofs.Ythnadkdfgckijaa.Pure
namespace Go.Proofs.Ythnadkdfgckijaa.Pure
open Go.RowKit Go.Proofs.Ythnadkdfgckijaa Go.Proofs.Ythnadkdfgckijaa.PAll Go.Proofs.Ythnadkdfgckijaa.Mem Go.Proofs.YthnadkdfgckijaaW.PrintWords Go.Proofs.YthnadkdfgckijaaW.PrintLast Go.Proofs.YthnadkdfgckijaaW.PrintMore
set_option linter.unusedVariables false
set_option linter.unusedSimpArgs false
set_option linter.unusedSectionVars false

/-- A disk, its clone, and the document's disk: what the first may change touches neither of the others. -/
def Tri (w : World) (gd gc gr : Nat) (X : Nat → Prop) (s t : DS) : Prop := ∃ U R Uc U' : Nat → Prop, DKR w gd U R s ∧ DK w gc Uc t ∧ DR w gr U' t ∧ (∀ k, Uc k → ¬ U' k) ∧ (∀ k, Uc k → ¬ X k) ∧ (∀ k, U' k → ¬ X k) ∧ (∀ k, X k → k < w.heap.size) ∧ (∀ k, U k ∧ ¬ R k → ¬ Uc k ∧ ¬ U' k ∧ ¬ X k)
theorem Tri.below {w w' : World} {gd gc gr : Nat} {X : Nat → Prop} {s t : DS} (h : Tri w gd gc gr X s t) (hb : Below w.heap.size w w') : Tri w' gd gc gr X s t := by
  obtain ⟨U, R, Uc, U', h1, h2, h3, h4, h5, h6, h7, h8⟩ := h
  exact ⟨U, R, Uc, U', h1.below hb, h2.below hb, h3.below hb, h4, h5, h6, fun k q => Nat.lt_of_lt_of_le (h7 k q) hb.size, h8⟩
theorem Tri.pair {w : World} {gd gc gr : Nat} {X : Nat → Prop} {s t : DS} (h : Tri w gd gc gr X s t) : Pair w gc gr X t t := by
  obtain ⟨U, R, Uc, U', h1, h2, h3, h4, h5, h6, h7, h8⟩ := h
  exact ⟨Uc, U', h2, h3, h4, h5, h6, h7⟩
theorem Tri.k {w : World} {gd gc gr : Nat} {X : Nat → Prop} {s t : DS} (h : Tri w gd gc gr X s t) : ∃ U R, DKR w gd U R s ∧ ∀ w1 s1, DoesN w w1 gd U R s1 → Tri w1 gd gc gr X s1 t ∧ Fr (fun k => ¬ X k) w w1 := by
  obtain ⟨U, R, Uc, U', h1, h2, h3, h4, h5, h6, h7, h8⟩ := h
  refine ⟨U, R, h1, fun w1 s1 hd => ?_⟩
  obtain ⟨hf, U3, g1, g2⟩ := hd
  refine ⟨⟨U3, R, Uc, U', g1, h2.fr hf (fun k q z => (h8 k z).1 q), h3.fr hf (fun k q z => (h8 k z).2.1 q), h4, h5, h6, fun k q => Nat.lt_of_lt_of_le (h7 k q) hf.size, fun k q => ?_⟩, hf.mono (fun k q => (h8 k q).2.2)⟩
  rcases g2 k q.1 with z | z
  · exact h8 k ⟨z, q.2⟩
  · exact ⟨fun y => Nat.lt_irrefl _ (Nat.lt_of_lt_of_le (h2.lt k y) z), fun y => Nat.lt_irrefl _ (Nat.lt_of_lt_of_le (h3.lt k y) z), fun y => Nat.lt_irrefl _ (Nat.lt_of_lt_of_le (h7 k y) z)⟩
theorem tri_write {w w2 : World} {gd gc gr cY : Nat} {X : Nat → Prop} {s t : DS} (h : Tri w gd gc gr X s t) (hb : Below w.heap.size w w2) {A : Option Addr} {b : List Int} (hO : Own w2 w.heap.size A cY b) (hn : b.length = 256) (hby : Bytes b) (hPl : s.P.length ≤ 1000000) (i : Int) :
    Calls Try.prog 16 #[.pointer (some ⟨gd, 0, none⟩), .int .i64 i, .slice A 256 cY] w2 fun e w' => ∃ r s', e = .returned (.int .i64 r) ∧ Tri w' gd gc gr X s' t ∧ Fr (fun k => ¬ X k) w2 w' := by
  obtain ⟨U, R, h1, _⟩ := h.k
  obtain ⟨U, R, Uc, U', h1, h2, h3, h4, h5, h6, h7, h8⟩ := h
  have hT : Tri w2 gd gc gr X s t := ⟨U, R, Uc, U', h1.below hb, h2.below hb, h3.below hb, h4, h5, h6, fun k q => Nat.lt_of_lt_of_le (h7 k q) hb.size, h8⟩
  refine (kr_write (h1.below hb) i hn hby (own_F3 hO hn) (by have := hO.cap; omega) (fun k q z => ?_) hPl).mono ?_
  · have := (ownF_lt hO k q).1
    have := h1.lt k z
    omega
  · rintro e w' ⟨rfl, hd⟩
    obtain ⟨hf, U3, g1, g2⟩ := hd
    refine ⟨_, _, rfl, ⟨U3, R, Uc, U', g1, (h2.below hb).fr hf (fun k q z => (h8 k z).1 q), (h3.below hb).fr hf (fun k q z => (h8 k z).2.1 q), h4, h5, h6, fun k q => Nat.lt_of_lt_of_le (h7 k q) (Nat.le_trans hb.size hf.size), fun k q => ?_⟩, hf.mono (fun k q => (h8 k q).2.2)⟩
    rcases g2 k q.1 with z | z
    · exact h8 k ⟨z, q.2⟩
    · have hs := hb.size
      exact ⟨fun y => by have := h2.lt k y; omega, fun y => by have := h3.lt k y; omega, fun y => by have := h7 k y; omega⟩
theorem tri_arm {w : World} {gd gc gr : Nat} {X UX : Nat → Prop} {s t : DS} (h : Tri w gd gc gr X s t) (i : Int) {Ax : Option Addr} {n cx : Nat} {b : List Int} (hX : Kd.F (Kd.int .u8) w UX Ax n b) (hn : n ≤ 140737488351232) :
    Calls Try.prog 29 #[.pointer (some ⟨gd, 0, none⟩), .int .i64 i, .slice Ax n cx] w fun e w' => ∃ r s', e = .returned (.int .i64 r) ∧ Tri w' gd gc gr X s' t ∧ Fr (fun k => ¬ X k) w w' := by
  obtain ⟨U, R, h1, h2⟩ := h.k
  refine (kr_arm h1 i hX hn _ _ rfl).mono ?_
  rintro e w' ⟨rfl, hd⟩
  obtain ⟨q1, q2⟩ := h2 _ _ hd
  exact ⟨_, _, rfl, q1, q2⟩
theorem tri_flush {w : World} {gd gc gr : Nat} {X : Nat → Prop} {s t : DS} (h : Tri w gd gc gr X s t) : Calls Try.prog 18 #[.pointer (some ⟨gd, 0, none⟩)] w fun e w' => ∃ r s', e = .returned (.int .i64 r) ∧ Tri w' gd gc gr X s' t ∧ Fr (fun k => ¬ X k) w w' := by
  obtain ⟨U, R, h1, h2⟩ := h.k
  refine (kr_flush h1).mono ?_
  rintro e w' ⟨rfl, hd, hf⟩
  obtain ⟨q1, q2⟩ := h2 _ _ ⟨hf, U, hd, fun k q => .inl q⟩
  exact ⟨_, _, rfl, q1, q2⟩
theorem pair_clone {w : World} {gd gr m : Nat} {X : Nat → Prop} {s : DS} (h : Pair w gd gr X s s) (hs : Sok m s) (hm : m ≤ 1000) : Calls Try.prog 34 #[.pointer (some ⟨gd, 0, none⟩)] w fun e w' => ∃ gc, e = .returned (.pointer (some ⟨gc, 0, none⟩)) ∧ Tri w' gd gc gr X s s ∧ Below w.heap.size w w' := by
  obtain ⟨U, U', h1, h2, h3, h4, h5, h6⟩ := h
  refine (n_clone (V := U) ⟨U, h1, fun _ q => q⟩ (by have := hs.P; omega) hs.K (by have := hs.B; omega)).mono ?_
  rintro e w' ⟨gc, U2, R, rfl, q1, q2, ⟨Uc, q3, q4⟩, hb⟩
  have hR : ∀ k, R k → U k := fun k z => by
    obtain ⟨_, _, _, _, _, _, _, _, _, _, _, _, _, _, _, _, _, _, _, _, rl, _⟩ := q1
    exact q2 k (rl k z)
  refine ⟨gc, rfl, ⟨U2, R, Uc, U', q1, q3, h2.below hb, fun k z y => ?_, fun k z y => ?_, h5, fun k z => Nat.lt_of_lt_of_le (h6 k z) hb.size, fun k z => ⟨fun y => ?_, h3 k (q2 k z.1), h4 k (q2 k z.1)⟩⟩, hb⟩
  · rcases q4 k z with a | a
    · have := h2.lt k y; omega
    · exact h3 k (hR k a) y
  · rcases q4 k z with a | a
    · have := h6 k y; omega
    · exact h4 k (hR k a) y
  · rcases q4 k y with a | a
    · have := h1.lt k (q2 k z.1); omega
    · exact z.2 a
theorem Pair.dk {w : World} {gd gr : Nat} {X : Nat → Prop} {s t : DS} (h : Pair w gd gr X s t) : (∃ V, Dk w gd s V) ∧ (∃ V, Dr w gr t V) := by
  obtain ⟨U, U', h1, h2, _⟩ := h
  exact ⟨⟨U, U, h1, fun _ q => q⟩, ⟨U', U', h2, fun _ q => q⟩⟩
theorem pair_same {w : World} {gd gr m : Nat} {X : Nat → Prop} {s : DS} (h : Pair w gd gr X s s) (hs : Sok m s) (hm : m ≤ 120) : Calls Try.prog 28 #[.pointer (some ⟨gd, 0, none⟩), .pointer (some ⟨gr, 0, none⟩)] w fun e w' => e = .returned (.bool true) ∧ Below w.heap.size w w' := by
  obtain ⟨⟨V, h1⟩, ⟨V', h2⟩⟩ := h.dk
  exact same_c h1 h2 (by have := hs.B; omega) (by have := hs.P; omega)
theorem fr_K {n0 : Nat} {w0 w w' : World} {X : Nat → Prop} (hf : Fr (fun k => ¬ X k) w w') (hK : Below n0 w0 w) (hX : ∀ i, i < n0 → X i) (hs : n0 ≤ w.heap.size) : Below n0 w0 w' := hf.below hK (fun i hi => Nat.le_of_not_lt (fun z => hi (hX i z))) hs
attribute [local go_sem high] cut22
set_option maxRecDepth 100000 in
set_option maxHeartbeats 16000000 in
theorem dodo_c {w : World} {A : Option Addr} {n c : Nat} {L : List SOp} (blocks : Int) (hL : OpsAt w A n L) (hc : n ≤ c) (hN : ∀ o ∈ L, o.n ≤ 9223372036854775807) : Calls Try.prog 8 #[.int .i64 blocks, .slice A n c] w fun e w' => e = .returned (.bool true) ∧ Below w.heap.size w w' := by
  have K := Aside0.mk (Below.refl w.heap.size w)
  by_cases hbad : blocks < 1 ∨ 2048 < blocks
  · have BAD := Aside0.mk hbad
    clear hL hc hN hbad
    go_enter Try.func8, Try.ntmps8
    go_wp2_with fail
    refine (new_bad w blocks BAD.out).mono ?_
    rintro e w1 ⟨rfl, hb⟩
    replace K := Aside0.mk (K.out.trans (hb.mono K.out.size))
    clear hb
    go_wp2_with fail
    refine (rnew_bad w1 blocks BAD.out).mono ?_
    rintro e w2 ⟨rfl, hb⟩
    replace K := Aside0.mk (K.out.trans (hb.mono K.out.size))
    clear hb
    go_wp2_with fail
    refine (live_c w2).mono ?_
    rintro e w3 ⟨rfl, hb⟩
    replace K := Aside0.mk (K.out.trans (hb.mono K.out.size))
    clear hb
    go_wp2_with fail
    go_ret
    exact ⟨rfl, K.out⟩
  obtain ⟨N, rfl⟩ : ∃ N : Nat, blocks = (N : Int) := ⟨blocks.toNat, by omega⟩
  obtain ⟨mm, hmm⟩ : ∃ m : Nat, m = min n 120 := ⟨_, rfl⟩
  have hmin : ∀ ats ty, Builtin.min_ ats ty #[.int .i64 (n : Int), .int .i64 120] = pure (.int .i64 (mm : Int)) := by
    intro ats ty
    rw [min_two, min2_int]
    have : (if (120 : Int) < (n : Int) then 120 else (n : Int)) = (mm : Int) := by split <;> omega
    rw [this]
    rfl
  have hmc : mm ≤ c := by omega
  have LA := Aside0.mk hL
  have ML := Aside0.mk (show mm ≤ L.length ∧ mm ≤ 120 from ⟨by have := hL.len; omega, by omega⟩)
  have LN := Aside0.mk hN
  have NN := Aside0.mk (show 1 ≤ N ∧ N ≤ 2048 from by omega)
  have MN := Aside0.mk hmin
  have MC := Aside0.mk hmc
  clear hL hc hN hbad hmm hmin hmc
  go_enter Try.func8, Try.ntmps8
  go_wp2_with fail
  refine (new_ok w N NN.out.1 NN.out.2).mono ?_
  rintro e w1 ⟨g, rfl, hg, hD, hb⟩
  have D1 := Aside0.mk hD
  have B1 := Aside0.mk hb
  replace K := Aside0.mk (K.out.trans (hb.mono K.out.size))
  clear hg hD hb
  go_wp2_with fail
  refine (rnew_ok w1 N NN.out.1 NN.out.2).mono ?_
  rintro e w2 ⟨gr, rfl, hg, hE, hb⟩
  have P0 := Aside0.mk (show Pair w2 g gr (fun k => k < w.heap.size) (newS N) (newS N) from ⟨_, _, D1.out.below hb, hE, fun k q z => Nat.lt_irrefl _ (Nat.lt_of_lt_of_le q.2 z.1), fun k q z => Nat.lt_irrefl _ (Nat.lt_of_lt_of_le z q.1), fun k q z => Nat.lt_irrefl _ (Nat.lt_of_lt_of_le z (Nat.le_trans B1.out.size q.1)), fun k q => Nat.lt_of_lt_of_le q (Nat.le_trans B1.out.size hb.size)⟩)
  replace K := Aside0.mk (K.out.trans (hb.mono K.out.size))
  have S0 := Aside0.mk (show Sok 0 (newS N) from ⟨Int.le_refl 0, (show (0 : Int) ≤ 9223372036854775807 by decide), Nat.zero_le _, by show (List.replicate N (zer 256)).length ≤ 2048; rw [List.length_replicate]; exact NN.out.2, Nat.zero_le _⟩)
  clear hg hE hb D1
  go_wp2_with fail
  refine (live_c w2).mono ?_
  rintro e w3 ⟨rfl, hb⟩
  replace P0 := Aside0.mk (P0.out.below hb)
  replace K := Aside0.mk (K.out.trans (hb.mono K.out.size))
  clear hb
  have hmin := MN.out
  have hmc := MC.out
  go_wp2_with fail
  clear hmin hmc
  go_loopg [5, 44] mm (fun q v5 v44 w' => ∃ (k gd : Nat) (s : DS), v5 = .pointer (some ⟨gd, 0, none⟩) ∧ v44 = .int .i64 (k : Int) ∧ Aside0 (k + q = mm) ∧ Aside0 (Pair w' gd gr (fun k => k < w.heap.size) s s) ∧ Aside0 (Sok k s) ∧ Aside0 (Below w.heap.size w w'))
  case atStart => exact ⟨0, g, _, rfl, rfl, ⟨Nat.zero_add _⟩, P0, S0, K⟩
  case round =>
    clear P0 S0 K
    obtain ⟨k, gd, s, rfl, rfl, HJ, PP, SS, K⟩ := hrel
    by_cases hlt : k < mm
    case pos =>
      have hgd : decide ((k : Int) < (mm : Int)) = true := (di_t hlt).1
      have hgd2 : decide (k < mm) = true := (di_t hlt).2
      have HN1 := Aside0.mk (st_n HJ.out hlt).1
      have HM := Aside0.mk (st_n HJ.out hlt).2
      have HV := Aside0.mk (stepv hlt (by have := ML.out.2; omega))
      have K120 := Aside0.mk (show k + 1 ≤ 120 from by have := ML.out.2; omega)
      obtain ⟨ad, Ap, cp, hA, hcells, hcp, hpl, hpc, hpb⟩ := LA.out.at_ k (Nat.lt_of_lt_of_le hlt ML.out.1)
      have hon := LN.out _ (List.getElem_mem (Nat.lt_of_lt_of_le hlt ML.out.1))
      obtain ⟨o, ho⟩ : ∃ o, o = L[k]'(Nat.lt_of_lt_of_le hlt ML.out.1) := ⟨_, rfl⟩
      rw [← ho] at hcells hcp hpl hpc hpb hon
      obtain ⟨np, hvp⟩ : ∃ np, np = o.picks.length := ⟨_, rfl⟩
      rw [← hvp] at hcells hcp hpl hpc
      obtain ⟨q0, q1, q2, q3, q4, q5⟩ := hcells.below K.out
      have S1 := Aside0.mk (SS.out.step o hon (by rw [← hvp]; exact hpl))
      have XF := Aside0.mk (Kd.F_below (F_arg hpc) K.out)
      obtain ⟨o1, o2, o3, o4, o5, op⟩ := o
      have NP := Aside0.mk (show op.length = np from hvp.symm)
      have CP := Aside0.mk (And.intro hcp hpl)
      dsimp only at q0 q1 q2 q3 q4 q5
      have XN := Aside0.mk (heap_new wr (.cells #[.int .i64 o1, .int .i64 o2, .int .u8 o3, .int .i64 o4, .int .i64 o5, .slice Ap np cp] 29))
      have XB := (Below.refl wr.heap.size wr).alloc (Nat.le_refl _) (.cells #[.int .i64 o1, .int .i64 o2, .int .u8 o3, .int .i64 o4, .int .i64 o5, .slice Ap np cp] 29)
      have P5 := Aside0.mk (PP.out.add XB (x := wr.heap.size) ⟨Nat.le_refl _, by simp⟩)
      have K5 := Aside0.mk (K.out.trans (XB.mono K.out.size))
      have XF5 := Aside0.mk (Kd.F_below XF.out XB)
      have SZ5 := Aside0.mk (Nat.le_trans K.out.size XB.size)
      obtain ⟨x0, x1, x2, x3, x4, x5⟩ := six_cells XN.out
      clear hcells hcp hpl hpc hpb hon ho hvp XB XF K PP
      subst hA
      go_wp2_with fail
      obtain ⟨w5, hw5⟩ : ∃ y, y = wr.alloc (.cells #[.int .i64 o1, .int .i64 o2, .int .u8 o3, .int .i64 o4, .int .i64 o5, .slice Ap np cp] 29) := ⟨_, rfl⟩
      obtain ⟨gb, hgb⟩ : ∃ y, y = wr.heap.size := ⟨_, rfl⟩
      rw [← hw5] at P5 K5 XF5 SZ5 XN
      rw [← hgb] at P5 XN
      rw [← hw5, ← hgb]
      clear hw5 hgb x0 x1 x2 x3 x4 x5 q0 q1 q2 q3 q4 q5
      have hs' := SS.out
      refine (does_c o1 o2 o3 o4 o5 P5.out SS.out (by have := K120.out; omega) XF5.out (fun q hq => .inl hq) NP.out CP.out.1 CP.out.2 K5.out (fun i hi => .inl hi) SZ5.out).mono ?_
      rintro e w6 ⟨rfl, hP, hK, hH⟩
      obtain ⟨s1, hs1⟩ : ∃ s1, s1 = stepD s ⟨o1, o2, o3, o4, o5, op⟩ := ⟨_, rfl⟩
      rw [← hs1] at hP S1
      have P6 := Aside0.mk hP
      have K6 := Aside0.mk hK
      have X6 := Aside0.mk ((hH gb (.inr rfl)).trans XN.out)
      clear hP hK hH hs1 hs' P5 K5 XF5 XN SS NP CP SZ5
      go_wp2_with fail
      refine (pair_same P6.out S1.out K120.out).mono ?_
      rintro e w7 ⟨rfl, hb⟩
      replace P6 := Aside0.mk (P6.out.below hb)
      have SZ := Aside0.mk K6.out.size
      replace K6 := Aside0.mk (K6.out.trans (hb.mono K6.out.size))
      replace X6 := Aside0.mk ((hb.block _ (blk_lt X6.out)).trans X6.out)
      obtain ⟨y0, _, _, _, _, _⟩ := six_cells X6.out
      clear hb SZ
      by_cases h6 : o1 = 6
      case neg =>
        have e6 : (o1 == 6) = false := by simpa using h6
        clear h6
        go_wp2_with fail
        go_roundg (gk - 1)
        case measure => exact HM.out
        case rel => exact ⟨k + 1, gd, s1, rfl, by first | exact HV.out | rfl, HN1, ⟨P6.out.less (fun q hq => .inl hq)⟩, S1, K6⟩
      have e6 : (o1 == 6) = true := by simpa using h6
      clear h6
      go_wp2_with fail
      refine (pair_clone P6.out S1.out (by have := K120.out; omega)).mono ?_
      rintro e w8 ⟨gc, rfl, hT, hb⟩
      have T8 := Aside0.mk hT
      have K8 := Aside0.mk (K6.out.trans (hb.mono K6.out.size))
      clear hT hb P6 K6 X6 y0 e6
      go_wp2_with fail
      refine (filled_c w8 99).mono ?_
      rintro e w9 ⟨gY, rfl, hO, hb⟩
      have WR := Aside0.mk (tri_write T8.out hb hO (fillL_len 99) (fillL_bytes 99) (by have := S1.out.P; have := K120.out; omega) 0)
      have K9 := Aside0.mk (K8.out.trans (hb.mono K8.out.size))
      clear hb hO T8 K8
      go_wp2_with fail
      refine WR.out.mono ?_
      rintro e wa ⟨r, s2, rfl, hT, hf⟩
      have T9 := Aside0.mk hT
      have KA := Aside0.mk (fr_K hf K9.out (fun i hi => .inl hi) K9.out.size)
      clear hT hf WR K9
      have XA := Aside0.mk (heap_new wa (.cells #[.int .u8 15] 5))
      have XB := (Below.refl wa.heap.size wa).alloc (Nat.le_refl _) (.cells #[.int .u8 15] 5)
      have TB := Aside0.mk (T9.out.below XB)
      have KB := Aside0.mk (KA.out.trans (XB.mono KA.out.size))
      clear XB T9 KA
      go_wp2_with fail
      obtain ⟨wb, hwb⟩ : ∃ y, y = wa.alloc (Obj.cells #[Value.int IntKind.u8 15] 5) := ⟨_, rfl⟩
      obtain ⟨gp, hgp⟩ : ∃ y, y = wa.heap.size := ⟨_, rfl⟩
      rw [← hwb] at XA TB KB
      rw [← hgp] at XA
      rw [← hwb, ← hgp]
      clear hwb hgp
      refine (tri_arm TB.out 1 (blk_F XA.out (l := [15]) rfl (by decide)) (by decide)).mono ?_
      rintro e wc ⟨r2, s3, rfl, hT, hf⟩
      have TC := Aside0.mk hT
      have KC := Aside0.mk (fr_K hf KB.out (fun i hi => .inl hi) KB.out.size)
      clear hT hf TB KB XA
      go_wp2_with fail
      refine (tri_flush TC.out).mono ?_
      rintro e wd ⟨r3, s4, rfl, hT, hf⟩
      have TD := Aside0.mk hT.pair
      have KD := Aside0.mk (fr_K hf KC.out (fun i hi => .inl hi) KC.out.size)
      clear hT hf TC KC
      go_wp2_with fail
      go_roundg (gk - 1)
      case measure => exact HM.out
      case rel => exact ⟨k + 1, gc, s1, rfl, by first | exact HV.out | rfl, HN1, ⟨TD.out.less (fun q hq => .inl hq)⟩, S1, KD⟩
    have hke : k = mm := en_k HJ.out hlt
    obtain ⟨hgd, hgd2⟩ := nlt_f hlt
    have K120 := Aside0.mk (show k ≤ 120 from by rw [hke]; exact ML.out.2)
    clear hlt hke
    go_wp2_with fail
    refine (pair_same PP.out SS.out K120.out).mono ?_
    rintro e we ⟨rfl, hb⟩
    replace K := Aside0.mk (K.out.trans (hb.mono K.out.size))
    clear hb
    go_wp2_with fail
    go_ret
    exact ⟨rfl, K.out⟩
end Go.Proofs.Ythnadkdfgckijaa.Pure
namespace Go.Proofs.Ythnadkdfgckijaa.Pure
open Go.RowKit Go.Proofs.Ythnadkdfgckijaa Go.Proofs.Ythnadkdfgckijaa.PAll Go.Proofs.Ythnadkdfgckijaa.Arg Go.Proofs.YthnadkdfgckijaaW.PrintWords Go.Proofs.YthnadkdfgckijaaW.PrintLast Go.Proofs.YthnadkdfgckijaaW.PrintMore
open Go.WideShapes Go.ChangeShapes
theorem opN_K {w : World} (x : Int × Int × Int × Int × Int × List Int × Unit) (cs : List Value) (h : Ty.K w tyOp x cs) : (opOf x).n ≤ 9223372036854775807 := by
  obtain ⟨a, b, c, d, e, l, q⟩ := x
  obtain ⟨c0, c1, _, _, c2, c3, _, _, c4, c5, _, _, c6, c7, _, _, c8, c9, _, ⟨_, hw⟩, _⟩ := h
  show e ≤ 9223372036854775807
  simp [Lit.wf, IntKind.min, IntKind.max, IntKind.signed, IntKind.bits] at hw
  omega
theorem opsN_of {w : World} {v : Value} {x : List (Int × Int × Int × Int × Int × List Int × Unit)} (h : Ty.K w tyOps x [v]) : ∀ o ∈ List.map opOf x, o.n ≤ 9223372036854775807 := by
  intro o ho
  obtain ⟨y, hy, rfl⟩ := List.mem_map.1 ho
  obtain ⟨j, hj, rfl⟩ := List.mem_iff_getElem.1 hy
  obtain ⟨A, c, hv, hl, hw, hr⟩ := h
  obtain ⟨ad, hA, hc⟩ := hr.2.2 (by show 0 < x.length; omega)
  obtain ⟨cs, c1, c2, c3⟩ := hc j _ (List.getElem?_eq_getElem hj)
  exact opN_K _ _ c2
set_option linter.unusedVariables false in
theorem DiskDoes (w : World) (a0 : Int) (_ : (Lit.int .i64 a0).wf = true) (v : Value) (x : tyOps.T) (hx : Ty.K w tyOps x [v]) : Calls Try.prog 8 #[.int .i64 a0, v] w fun e w' => e = .returned (.bool true) ∧ Below w.heap.size w w' := by
  have hN := opsN_of hx
  obtain ⟨A, n, c, rfl, hc, hL⟩ := ops_of hx
  exact dodo_c a0 hL hc hN
end Go.Proofs.Ythnadkdfgckijaa.Pure
