/- All that is pending reaches the medium: walked. -/
import Derived.Test.YthnadkdfgckijaaDkD
namespace Go.Proofs.Ythnadkdfgckijaa.Pure
open Go.RowKit Go.Proofs.Ythnadkdfgckijaa Go.Proofs.Ythnadkdfgckijaa.PAll Go.Proofs.Ythnadkdfgckijaa.Mem Go.Proofs.YthnadkdfgckijaaW.PrintWords Go.Proofs.YthnadkdfgckijaaW.PrintLast Go.Proofs.YthnadkdfgckijaaW.PrintMore
set_option linter.unusedVariables false
set_option linter.unusedSimpArgs false
set_option linter.unusedSectionVars false

set_option maxRecDepth 100000 in
set_option maxHeartbeats 16000000 in
theorem dk_flush {w : World} {g : Nat} {U : Nat → Prop} {s : DS} (h : DK w g U s) :
    Calls Try.prog 18 #[.pointer (some ⟨g, 0, none⟩)] w fun ex w' => ex = .returned (.int .i64 (flushS s).1) ∧ DK w' g U (flushS s).2 ∧ Fr U w w' := by
  have D0 := Aside0.mk h
  obtain ⟨r, hr⟩ : ∃ r, r = flushS s := ⟨_, rfl⟩
  rw [← hr]
  unfold flushS at hr
  clear h
  by_cases ho : s.off = true
  · rw [if_pos ho] at hr
    have hcan : (if s.off = true then (5 : Int) else 0) = 5 := if_pos ho
    have HO := Aside0.mk hcan
    subst hr
    clear hcan ho
    go_enter Try.func18, Try.ntmps18
    go_wp2_with fail
    refine (dk_can D0.out).mono ?_
    rintro ex w1 ⟨rfl, hb⟩
    rw [HO.out]
    have D1 := Aside0.mk (D0.out.below hb)
    have F1 := Aside0.mk (Fr.of_below (F := U) hb)
    clear hb
    go_wp2_with fail
    go_ret
    exact ⟨rfl, D1.out, F1.out⟩
  · rw [if_neg ho] at hr
    have hcan : (if s.off = true then (5 : Int) else 0) = 0 := if_neg ho
    have HO := Aside0.mk hcan
    obtain ⟨⟨b, s2⟩, hgs⟩ : ∃ x, x = goesS s := ⟨_, rfl⟩
    have QG := Aside0.mk (fun (w' : World) (h : DK w' g U s) => dk_goes h)
    rw [← hgs] at hr QG
    simp only at hr QG
    clear hcan ho hgs
    go_enter Try.func18, Try.ntmps18
    go_wp2_with fail
    refine (dk_can D0.out).mono ?_
    rintro ex w1 ⟨rfl, hb⟩
    rw [HO.out]
    have D1 := Aside0.mk (D0.out.below hb)
    have F1 := Aside0.mk (Fr.of_below (F := U) hb)
    have HR := Aside0.mk hr
    clear hb hr
    go_wp2_with fail
    refine (QG.out _ D1.out).mono ?_
    rintro ex w2 ⟨rfl, hD, hf⟩
    have D2 := Aside0.mk hD
    have F2 := Aside0.mk (F1.out.then_ hf)
    have hr := HR.out
    clear hD hf D1 F1 D0 QG HR
    cases b
    case true =>
      rw [if_pos rfl] at hr
      subst hr
      go_wp2_with fail
      go_ret
      exact ⟨rfl, D2.out, F2.out⟩
    case false =>
      rw [if_neg (by decide)] at hr
      subst hr
      obtain ⟨lt, ug, pen, pos, A, Ak, c, ck, vP, FB, FW, FK, h1, h2, h3, h4, h5, h6, h7, h8⟩ := D2.out
      obtain ⟨B, P, off, ops, armed, ps⟩ := s2
      simp only at pen pos h1 h2 h3 h4 h5 h6 h7 h8
      obtain ⟨AP, cP, rfl, hcP, hPF⟩ := R_own h3
      have G0 := Aside0.mk h1
      have R0 := Aside0.mk (show RowsAt w2 A c FB (flushB B (P.take 0)) from h2)
      have PF := Aside0.mk hPF
      have PN := Aside0.mk pen
      have GF := Aside0.mk (show ¬ FB g from fun q => (h6 _ q).2 rfl)
      have WF := Aside0.mk (show ∀ k, FW k → ¬ FB k from fun k hk => (h7 k hk).2.2)
      have FS := Aside0.mk (show ∀ k, FB k → k < w2.heap.size from fun k hk => lt k (h6 k hk).1)
      have HL := Aside0.mk (Kd.F_max hPF)
      have REST := Aside0.mk (And.intro lt (And.intro ug (And.intro pos (And.intro h4 (And.intro h5 (And.intro h6 (And.intro h7 h8)))))))
      obtain ⟨z0, z1, z2, z3, z4, z5⟩ := dk_cells h1
      clear lt ug pen pos h1 h2 h3 h4 h5 h6 h7 h8 hPF D2
      go_wp2_with fail
      clear z0 z1 z2 z3 z4 z5
      go_loopg [18] P.length (fun q v18 w' => ∃ (k : Nat), v18 = .int .i64 (k : Int) ∧ Aside0 (k + q = P.length) ∧ Aside0 (RowsAt w' A c FB (flushB B (P.take k))) ∧ Aside0 (Fr FB w2 w'))
      case atStart => exact ⟨0, rfl, ⟨Nat.zero_add _⟩, R0, ⟨Fr.refl _ _⟩⟩
      case round =>
        clear R0
        obtain ⟨k, rfl, HJ, RR, FF⟩ := hrel
        by_cases hlt : k < P.length
        case pos =>
          have hgd := (di_t hlt).1
          have hgd2 := (di_t hlt).2
          have HN := Aside0.mk (st_n HJ.out hlt).1
          have HM := Aside0.mk (st_n HJ.out hlt).2
          have HV := Aside0.mk (stepv hlt HL.out)
          obtain ⟨ad, Ab, cb, hAP, q0, q1, hcb, hbF⟩ := pen_at (F_fr PF.out FF.out WF.out) hlt
          obtain ⟨I, b, hPk, hI, hb, hby⟩ := pen_get PN.out hlt
          rw [hPk] at q0 q1 hcb hbF
          simp only at q0 q1 hcb hbF
          rw [hb] at q1 hcb hbF
          cases hAP
          have NX := Aside0.mk (flushB_next B P k hlt)
          rw [hPk] at NX
          have BI := Aside0.mk (And.intro hI (And.intro hb (And.intro hby hcb)))
          have BF := Aside0.mk hbF
          have GS := Aside0.mk FF.out.size
          clear hPk hI hb hby hcb hbF HJ
          go_upto_region 9 with fail
          clear q0 q1
          have hbn := (Below.refl wr.heap.size wr).alloc (Nat.le_refl _) (.cells #[.int .i64 (I : Int), .slice Ab 256 cb] 101)
          have N5 := Aside0.mk (heap_new wr (.cells #[.int .i64 (I : Int), .slice Ab 256 cb] 101))
          replace RR := Aside0.mk (RR.out.below hbn)
          replace FF := Aside0.mk (FF.out.then_ (Fr.of_below hbn))
          replace BF := Aside0.mk (Kd.F_below BF.out hbn)
          obtain ⟨w5, hw5⟩ : ∃ x, x = wr.alloc (.cells #[.int .i64 (I : Int), .slice Ab 256 cb] 101) := ⟨_, rfl⟩
          rw [← hw5] at N5 RR FF BF ⊢
          clear hw5 hbn GS
          obtain ⟨g5, hg5⟩ : ∃ x, x = wr.heap.size := ⟨_, rfl⟩
          rw [← hg5] at N5 ⊢
          clear hg5
          obtain ⟨y0, y1⟩ := two_cells N5.out
          have GG := Aside0.mk (fr_blk FF.out G0.out GF.out)
          have FS5 := Aside0.mk (show ∀ q, FB q → q < w5.heap.size from fun q hq => Nat.lt_of_lt_of_le (FS.out q hq) FF.out.size)
          have RC := Aside0.mk (reach_c (A := A) (c := c) (FB := FB) (UX := FW) (B := flushB B (P.take k)) (by rw [flushB_len]; exact GG.out) RR.out GF.out (I := I) (by rw [flushB_len]; exact BI.out.1) BI.out.2.1 BI.out.2.2.1 BF.out BI.out.2.2.2 WF.out FS5.out 15)
          rw [← NX.out] at RC
          go_wp2_with fail
          clear y0 y1
          refine RC.out.mono ?_
          rintro e wn ⟨rfl, hR, hf⟩
          have RN := Aside0.mk hR
          have FN := Aside0.mk (FF.out.then_ hf)
          clear hR hf RC
          go_wp2_with fail
          go_roundg (gk - 1)
          case measure => exact HM.out
          case rel => exact ⟨k + 1, HV.out, HN, RN, FN⟩
        have hke : k = P.length := en_k HJ.out hlt
        have hge := (di_f hke).1
        have hge2 := (di_f hke).2
        have RE := Aside0.mk (show RowsAt wr A c FB (flushB B P) from by
          have h := RR.out
          rw [List.take_of_length_le (by omega)] at h
          exact h)
        have GE := Aside0.mk (fr_blk FF.out G0.out GF.out)
        have y1 := blk_frozen GE.out 1
        clear hlt hke RR HJ
        obtain ⟨z0, z1, z2, z3, z4, z5⟩ := dk_cells GE.out
        go_wp2_with fail
        go_ret
        obtain ⟨lt, ug, pos, h4, h5, h6, h7, h8⟩ := REST.out
        have t1 : Fr (· = g) wr _ := Fr.set (p := ⟨g, 1, none⟩) (Fr.refl (· = g) wr) rfl (.slice none 0 0)
        have f1 : Fr U w2 wr := FF.out.mono (fun k q => (h6 k q).1)
        have f2 : Fr U w2 _ := Fr.set (p := ⟨g, 1, none⟩) f1 ug (.slice none 0 0)
        refine ⟨rfl, ⟨fun k hk => Nat.lt_of_lt_of_le (lt k hk) f2.size, ug, penOk_nil _, by simp only [flushB_len]; exact pos, A, Ak, c, ck, .slice none 0 0, FB, fun _ => False, FK, ?_, RE.out.fr t1 (fun k q e => GF.out (e ▸ q)), R_none _ _, F_fr (F_fr h4 FF.out (fun k q => (h8 k q).2.2.1)) t1 (fun k q => (h8 k q).2.1), h5, h6, fun k q => q.elim, fun k q => ⟨(h8 k q).1, (h8 k q).2.1, (h8 k q).2.2.1, fun z => z⟩⟩, F2.out.then_ f2⟩
        show (World.setCell wr _ _).heap[g]? = some (.cells (dkCs A (flushB B P).length c (.slice none 0 0) (.bool off) (.int .i64 ops) (.int .i64 armed) (.slice Ak ps.length ck)) 55 (0, 0))
        rw [flushB_len, blk_set GE.out 1 _]
        simp
end Go.Proofs.Ythnadkdfgckijaa.Pure
