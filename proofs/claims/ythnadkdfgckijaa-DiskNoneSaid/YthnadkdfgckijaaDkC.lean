/- What a disk is asked: contracts, walked. -/
import Derived.Test.YthnadkdfgckijaaDkS
namespace Go.Proofs.Ythnadkdfgckijaa.Pure
open Go.RowKit Go.Proofs.Ythnadkdfgckijaa Go.Proofs.Ythnadkdfgckijaa.PAll Go.Proofs.Ythnadkdfgckijaa.Mem Go.Proofs.YthnadkdfgckijaaW.PrintWords Go.Proofs.YthnadkdfgckijaaW.PrintLast Go.Proofs.YthnadkdfgckijaaW.PrintMore
set_option linter.unusedVariables false
set_option linter.unusedSimpArgs false
set_option linter.unusedSectionVars false

section
variable {w : World} {g n c : Nat} {A : Option Addr} {v1 v3 v4 v5 : Value} {off : Bool} (hg : w.heap[g]? = some (.cells (dkCs A n c v1 (.bool off) v3 v4 v5) 55 (0, 0)))
include hg
set_option maxRecDepth 100000 in
theorem len_b : Calls Try.prog 32 #[.pointer (some ⟨g, 0, none⟩)] w fun ex w' => ex = .returned (.int .i64 (n : Int)) ∧ Below w.heap.size w w' := by
  have K0 := Aside0.mk (Below.refl w.heap.size w)
  obtain ⟨z0, z1, z2, z3, z4, z5⟩ := dk_cells hg
  clear hg
  go_enter Try.func32, Try.ntmps32
  go_wp2_with fail
  go_ret
  exact ⟨rfl, K0.out⟩
set_option maxRecDepth 100000 in
theorem can_b (hn : 0 < n) : Calls Try.prog 57 #[.pointer (some ⟨g, 0, none⟩)] w fun ex w' => ex = .returned (.int .i64 (if off = true then 5 else 0)) ∧ Below w.heap.size w w' := by
  have G0 := Aside0.mk hg
  have h0 : (n == 0) = false := by simp; omega
  have h1 : ((n : Int) == 0) = false := by simp; omega
  clear hg hn
  go_enter Try.func57, Try.ntmps57
  go_wp2_with fail
  refine (len_b G0.out).mono ?_
  rintro ex w1 ⟨rfl, hb⟩
  have K1 := Aside0.mk hb
  have G1 := Aside0.mk ((hb.block _ (blk_lt G0.out)).trans G0.out)
  clear hb
  obtain ⟨z0, z1, z2, z3, z4, z5⟩ := dk_cells G1.out
  cases off
  · go_wp2_with fail
    go_ret
    exact ⟨rfl, K1.out⟩
  · go_wp2_with fail
    go_ret
    exact ⟨rfl, K1.out⟩
set_option maxRecDepth 100000 in
theorem place_b (hn : 0 < n) (i r : Int) (hr : (if off = true then 5 else if i < 0 ∨ i ≥ (n : Int) then 30 else 0) = r) : Calls Try.prog 54 #[.pointer (some ⟨g, 0, none⟩), .int .i64 i] w fun ex w' => ex = .returned (.int .i64 r) ∧ Below w.heap.size w w' := by
  have HR := Aside0.mk hr
  clear hr
  have G0 := Aside0.mk hg
  have HN := Aside0.mk hn
  clear hg hn
  go_enter Try.func54, Try.ntmps54
  go_wp2_with fail
  refine (can_b G0.out HN.out).mono ?_
  rintro ex w1 ⟨rfl, hb⟩
  have K1 := Aside0.mk hb
  have G1 := Aside0.mk ((hb.block _ (blk_lt G0.out)).trans G0.out)
  clear hb
  obtain ⟨z0, z1, z2, z3, z4, z5⟩ := dk_cells G1.out
  cases off
  · rw [if_neg (by decide)]
    by_cases h1 : i < 0
    · have hr := HR.out
      rw [if_neg (by decide), if_pos (.inl h1)] at hr
      subst hr
      have hg1 : decide (i < 0) = true := decide_eq_true h1
      clear h1 HR
      go_wp2_with fail
      go_ret
      exact ⟨rfl, K1.out⟩
    · have hg1 : decide (i < 0) = false := decide_eq_false h1
      by_cases h2 : i ≥ (n : Int)
      · have hr := HR.out
        rw [if_neg (by decide), if_pos (.inr h2)] at hr
        subst hr
        have hg2 : decide (i ≥ (n : Int)) = true := decide_eq_true h2
        have hg3 : decide ((n : Int) ≤ i) = true := decide_eq_true h2
        clear h1 h2 HR
        go_wp2_with fail
        go_ret
        exact ⟨rfl, K1.out⟩
      · have hr := HR.out
        rw [if_neg (by decide), if_neg (by omega)] at hr
        subst hr
        have hg2 : decide (i ≥ (n : Int)) = false := decide_eq_false h2
        have hg3 : decide ((n : Int) ≤ i) = false := decide_eq_false h2
        clear h1 h2 HR
        go_wp2_with fail
        go_ret
        exact ⟨rfl, K1.out⟩
  · rw [if_pos rfl]
    have hr := HR.out
    rw [if_pos rfl] at hr
    subst hr
    go_wp2_with fail
    go_ret
    exact ⟨rfl, K1.out⟩
set_option maxRecDepth 100000 in
theorem on_b (hn : 0 < n) : Calls Try.prog 31 #[.pointer (some ⟨g, 0, none⟩)] w fun ex w' => ex = .returned (.bool (!off)) ∧ Below w.heap.size w w' := by
  have G0 := Aside0.mk hg
  have HN := Aside0.mk hn
  clear hg hn
  go_enter Try.func31, Try.ntmps31
  go_wp2_with fail
  refine (can_b G0.out HN.out).mono ?_
  rintro ex w1 ⟨rfl, hb⟩
  have K1 := Aside0.mk hb
  clear hb
  cases off
  · rw [if_neg (by decide)]
    go_wp2_with fail
    go_ret
    exact ⟨by simp, K1.out⟩
  · rw [if_pos rfl]
    go_wp2_with fail
    go_ret
    exact ⟨by simp, K1.out⟩
set_option maxRecDepth 100000 in
theorem restart_b (hn : 0 < n) : Calls Try.prog 30 #[.pointer (some ⟨g, 0, none⟩)] w fun ex w' => ex = .returned (.int .i64 (if off = true then 0 else 7)) ∧ w'.heap[g]? = some (.cells (dkCs A n c v1 (.bool false) v3 v4 v5) 55 (0, 0)) ∧ Fr (· = g) w w' := by
  have G0 := Aside0.mk hg
  have HN := Aside0.mk hn
  clear hg hn
  go_enter Try.func30, Try.ntmps30
  go_wp2_with fail
  refine (can_b G0.out HN.out).mono ?_
  rintro ex w1 ⟨rfl, hb⟩
  have K1 := Aside0.mk (Fr.of_below (F := (· = g)) hb)
  have G1 := Aside0.mk ((hb.block _ (blk_lt G0.out)).trans G0.out)
  have y2 := blk_frozen G1.out 2
  clear hb
  obtain ⟨z0, z1, z2, z3, z4, z5⟩ := dk_cells G1.out
  cases off
  · rw [if_neg (by decide)]
    go_wp2_with fail
    go_ret
    exact ⟨rfl, G1.out, K1.out⟩
  · rw [if_pos rfl]
    go_wp2_with fail
    go_ret
    refine ⟨rfl, ?_, Fr.set (F := (· = g)) (p := ⟨g, 2, none⟩) K1.out rfl _⟩
    rw [blk_set G1.out 2 _]
    simp
end
theorem fallB_len (B : List (List Int)) (L : List ((Int × List Int) × Int)) : (fallB B L).length = B.length := by
  unfold fallB
  induction L generalizing B with
  | nil => rfl
  | cons x L ih => rw [List.foldl_cons, ih, reachB_len]
theorem flushB_len (B : List (List Int)) (L : List (Int × List Int)) : (flushB B L).length = B.length := by
  unfold flushB
  induction L generalizing B with
  | nil => rfl
  | cons x L ih => rw [List.foldl_cons, ih, reachB_len]
theorem pen_get {n : Nat} {P : List (Int × List Int)} (h : PenOk n P) {k : Nat} (hk : k < P.length) : ∃ (I : Nat) (b : List Int), P[k] = ((I : Int), b) ∧ I < n ∧ b.length = 256 ∧ Bytes b := by
  obtain ⟨h1, h2, h3, h4⟩ := h P[k] (List.getElem_mem hk)
  exact ⟨(P[k]).1.toNat, (P[k]).2, Prod.ext (by simp; omega) rfl, by omega, h3, h4⟩
theorem u8_at {w : World} {U : Nat → Prop} {A : Option Addr} {n : Nat} {l : List Int} (h : Kd.F (Kd.int .u8) w U A n l) {k : Nat} (hk : k < l.length) : ∃ ad, A = some ad ∧ w.cell? (ad.add k) = some (.int .u8 l[k]) := by
  have hn := Kd.F_len h
  obtain ⟨ad, hA, hc⟩ := C_cells (enc := Value.int .u8) (h1 := fun _ => rfl) (Kd.F_now h) n (Nat.le_refl _) (by omega)
  refine ⟨ad, hA, hc k _ ?_⟩
  rw [List.take_of_length_le (by omega)]
  simp [encs, List.getElem?_eq_getElem hk]
theorem add_block (a : Addr) (k : Nat) : (a.add k).block = a.block := by
  unfold Addr.add
  split <;> rfl
theorem ok_of {w : World} {U : Nat → Prop} {A : Option Addr} {n : Nat} {l : List Int} (h : Kd.F (Kd.int .u8) w U A n l) {k : Nat} (hk : k < l.length) {ad : Addr} (hA : A = some ad) : U ad.block := by
  have hn := Kd.F_len h
  obtain ⟨ad', cs, hA', hcl, hK, hcell, hok⟩ := Kd.F_get h 0 (k : Int) (by omega) (by omega)
  rw [hA] at hA'
  injection hA' with e
  rw [e]
  exact hok (by decide)
theorem cell_fr {w w' : World} {F : Nat → Prop} (hf : Fr F w w') {a : Addr} (hn : ¬ F a.block) {v : Value} (h : w.cell? a = some v) : w'.cell? a = some v := by
  have hb : w'.heap[a.block]? = w.heap[a.block]? := by
    refine hf.block a.block ?_ hn
    rcases Nat.lt_or_ge a.block w.heap.size with h1 | h1
    · exact h1
    · unfold World.cell? at h
      rw [Array.getElem?_eq_none h1] at h
      cases h
  rw [World.cell?_of_block hb]
  exact h
section
variable {w : World} {g c ck : Nat} {A Ak : Option Addr} {vP v2 v3 v4 v5 : Value} {FB FW UX : Nat → Prop} {B : List (List Int)} {P : List (Int × List Int)} {ps : List Int}
set_option maxRecDepth 100000 in
set_option maxHeartbeats 16000000 in
theorem falls_b (hg : w.heap[g]? = some (.cells (dkCs A B.length c vP v2 v3 v4 v5) 55 (0, 0))) (hR : RowsAt w A c FB B) (hP : Kd.R kW 101 w 0 FW vP P) (hpen : PenOk B.length P) (hgF : ¬ FB g) (hWF : ∀ k, FW k → ¬ FB k) (hFB : ∀ k, FB k → k < w.heap.size)
    (hK : Kd.F (Kd.int .u8) w UX Ak ps.length ps) (hck : ps.length ≤ ck) (hXF : ∀ k, UX k → ¬ FB k) :
    Calls Try.prog 62 #[.pointer (some ⟨g, 0, none⟩), .slice Ak ps.length ck] w fun ex w' => ex = .returned (.tuple #[]) ∧ RowsAt w' A c FB (fallB B (P.zip ps)) ∧ w'.heap[g]? = some (.cells (dkCs A B.length c (.slice none 0 0) (.bool true) v3 (.int .i64 0) (.slice none 0 0)) 55 (0, 0)) ∧ Fr (fun k => FB k ∨ k = g) w w' := by
  obtain ⟨AP, cP, rfl, hcP, hPF⟩ := R_own hP
  have G0 := Aside0.mk hg
  have R0 := Aside0.mk (show RowsAt w A c FB (fallB B ((P.zip ps).take 0)) from hR)
  have PF := Aside0.mk hPF
  have PN := Aside0.mk hpen
  have GF := Aside0.mk hgF
  have WF := Aside0.mk hWF
  have FS := Aside0.mk hFB
  have KF := Aside0.mk hK
  have XF := Aside0.mk hXF
  have HL := Aside0.mk (Kd.F_max hPF)
  obtain ⟨z0, z1, z2, z3, z4, z5⟩ := dk_cells hg
  clear hg hR hP hpen hgF hWF hFB hK hXF hPF
  go_enter Try.func62, Try.ntmps62
  go_wp2_with fail
  clear z0 z1 z2 z3 z4 z5
  go_loopg [11] P.length (fun q v11 w' => ∃ (k : Nat), v11 = .int .i64 (k : Int) ∧ Aside0 (k + q = P.length) ∧ Aside0 (RowsAt w' A c FB (fallB B ((P.zip ps).take k))) ∧ Aside0 (Fr FB w w'))
  case atStart => exact ⟨0, rfl, ⟨Nat.zero_add _⟩, R0, ⟨Fr.refl _ _⟩⟩
  case round =>
    clear R0
    obtain ⟨k, rfl, HJ, RR, FF⟩ := hrel
    by_cases hlt : k < P.length
    case pos =>
      have hgd := (di_t hlt).1
      have hgd2 := (di_t hlt).2
      have HN := Aside0.mk (st_n HJ.out hlt).1
      have HM := Aside0.mk (st_n HJ.out hlt).2
      have HV := Aside0.mk (stepv hlt HL.out)
      obtain ⟨ad, Ab, cb, hAP, q0, q1, hcb, hbF⟩ := pen_at (F_fr PF.out FF.out WF.out) hlt
      obtain ⟨I, b, hPk, hI, hb, hby⟩ := pen_get PN.out hlt
      rw [hPk] at q0 q1 hcb hbF
      simp only at q0 q1 hcb hbF
      rw [hb] at q1 hcb hbF
      cases hAP
      have PK := Aside0.mk hPk
      have BI := Aside0.mk (And.intro hI (And.intro hb (And.intro hby hcb)))
      have BF := Aside0.mk hbF
      have LT := Aside0.mk hlt
      have GS := Aside0.mk FF.out.size
      clear hPk hI hb hby hcb hbF HJ
      go_upto_region 3 with fail
      clear q0 q1
      have hbn := (Below.refl wr.heap.size wr).alloc (Nat.le_refl _) (.cells #[.int .i64 (I : Int), .slice Ab 256 cb] 101)
      have N5 := Aside0.mk (heap_new wr (.cells #[.int .i64 (I : Int), .slice Ab 256 cb] 101))
      have NF := Aside0.mk (show ¬ FB wr.heap.size from fun h => Nat.lt_irrefl _ (Nat.lt_of_lt_of_le (FS.out _ h) GS.out))
      replace RR := Aside0.mk (RR.out.below hbn)
      replace FF := Aside0.mk (FF.out.then_ (Fr.of_below hbn))
      replace BF := Aside0.mk (Kd.F_below BF.out hbn)
      obtain ⟨w5, hw5⟩ : ∃ x, x = wr.alloc (.cells #[.int .i64 (I : Int), .slice Ab 256 cb] 101) := ⟨_, rfl⟩
      rw [← hw5] at N5 RR FF BF ⊢
      clear hw5 hbn GS
      obtain ⟨g5, hg5⟩ : ∃ x, x = wr.heap.size := ⟨_, rfl⟩
      rw [← hg5] at N5 NF ⊢
      clear hg5
      by_cases hkp : k < ps.length
      case pos =>
        have hkd := (di_t hkp).1
        have hkd2 := (di_t hkp).2
        obtain ⟨ak, hAk, u0⟩ := u8_at (F_fr KF.out FF.out XF.out) hkp
        cases hAk
        obtain ⟨pk, hpk⟩ : ∃ x, x = ps[k] := ⟨_, rfl⟩
        have NX := Aside0.mk (fallB_next B P ps k LT.out hkp)
        rw [PK.out, ← hpk] at NX
        rw [← hpk] at u0
        obtain ⟨y0, y1⟩ := two_cells N5.out
        go_upto_region 4 with fail
        have hd : Below w5.heap.size w5 w5.drew := below_drew (Below.refl _ _)
        replace RR := Aside0.mk (RR.out.below hd)
        replace FF := Aside0.mk (FF.out.then_ (Fr.of_below hd))
        replace BF := Aside0.mk (Kd.F_below BF.out hd)
        have GG := Aside0.mk (fr_blk FF.out G0.out GF.out)
        have ND := Aside0.mk (show w5.drew.heap[g5]? = _ from N5.out)
        have AKB := Aside0.mk (show ¬ FB ak.block from XF.out _ (ok_of KF.out hkp rfl))
        have FS5 := Aside0.mk (show ∀ q, FB q → q < w5.drew.heap.size from fun q hq => Nat.lt_of_lt_of_le (FS.out q hq) FF.out.size)
        have u1 : w5.drew.cell? (ak.add k) = some (.int .u8 pk) := u0
        have UU := Aside0.mk u1
        have RC := Aside0.mk (reach_c (A := A) (c := c) (FB := FB) (UX := FW) (B := fallB B ((P.zip ps).take k)) (by rw [fallB_len]; exact GG.out) RR.out GF.out (I := I) (by rw [fallB_len]; exact BI.out.1) BI.out.2.1 BI.out.2.2.1 BF.out BI.out.2.2.2 WF.out FS5.out pk)
        rw [← NX.out] at RC
        clear hd u1 hpk
        go_region_held3 (fun w' => w'.cell? ⟨g5, 0, none⟩ = some (.int .i64 (I : Int)) ∧ w'.cell? ⟨g5, 1, none⟩ = some (.slice Ab 256 cb) ∧ w'.cell? (ak.add k) = some (.int .u8 pk)) (go_keep)
          (first
            | (go_at_call 58; refine RC.out.mono ?_; rintro e wn ⟨rfl, hR, hf⟩; have RN := Aside0.mk hR; have FN := Aside0.mk (FF.out.then_ hf); have NN := Aside0.mk (fr_blk hf ND.out NF.out); have u2 := (cell_fr hf (a := ak.add k) (by rw [add_block]; exact AKB.out) UU.out); clear hR hf y0 y1 u0 RC; obtain ⟨y0, y1⟩ := two_cells NN.out))
        clear y0 y1
        go_wp2_with fail
        go_roundg (gk - 1)
        case measure => exact HM.out
        case rel => exact ⟨k + 1, HV.out, HN, RN, FN⟩
      case neg =>
        have hkd : decide ((k : Int) < (ps.length : Int)) = false := decide_eq_false (by omega)
        have hkd2 : decide (k < ps.length) = false := decide_eq_false hkp
        have NX := Aside0.mk (fallB_stop B P ps k hkp)
        rw [← NX.out] at RR
        clear hkp
        go_wp2_with fail
        go_roundg (gk - 1)
        case measure => exact HM.out
        case rel => exact ⟨k + 1, HV.out, HN, RR, FF⟩
    have hke : k = P.length := en_k HJ.out hlt
    have hge := (di_f hke).1
    have hge2 := (di_f hke).2
    have RE := Aside0.mk (show RowsAt wr A c FB (fallB B (P.zip ps)) from by
      have h := RR.out
      rw [List.take_of_length_le (by rw [hke, List.length_zip]; omega)] at h
      exact h)
    have GE := Aside0.mk (fr_blk FF.out G0.out GF.out)
    have y1 := blk_frozen GE.out 1
    have y2 := blk_frozen GE.out 2
    have y4 := blk_frozen GE.out 4
    have y5 := blk_frozen GE.out 5
    clear hlt hke RR HJ
    obtain ⟨z0, z1, z2, z3, z4, z5⟩ := dk_cells GE.out
    go_wp2_with fail
    go_end0
    have f1 : Fr (fun k => FB k ∨ k = g) w wr := FF.out.mono (fun k h => .inl h)
    have s1 := Fr.set (p := ⟨g, 1, none⟩) f1 (.inr rfl) (.slice none 0 0)
    have s2 := Fr.set (p := ⟨g, 5, none⟩) s1 (.inr rfl) (.slice none 0 0)
    have s3 := Fr.set (p := ⟨g, 2, none⟩) s2 (.inr rfl) (.bool true)
    have s4 := Fr.set (p := ⟨g, 4, none⟩) s3 (.inr rfl) (.int .i64 0)
    have t1 : Fr (· = g) wr _ := Fr.set (p := ⟨g, 4, none⟩) (Fr.set (p := ⟨g, 2, none⟩) (Fr.set (p := ⟨g, 5, none⟩) (Fr.set (p := ⟨g, 1, none⟩) (Fr.refl (· = g) wr) rfl (.slice none 0 0)) rfl (.slice none 0 0)) rfl (.bool true)) rfl (.int .i64 0)
    refine ⟨rfl, RE.out.fr t1 (fun k h e => GF.out (e ▸ h)), ?_, s4⟩
    rw [blk_set (blk_set (blk_set (blk_set GE.out 1 _) 5 _) 2 _) 4 _]
    simp
end
end Go.Proofs.Ythnadkdfgckijaa.Pure
