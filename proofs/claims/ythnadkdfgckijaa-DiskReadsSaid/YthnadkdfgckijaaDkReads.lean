/- DiskReads: walked. -/
import Derived.Test.YthnadkdfgckijaaDkV
namespace Go.Proofs.Ythnadkdfgckijaa.Pure
open Go.RowKit Go.Proofs.Ythnadkdfgckijaa Go.Proofs.Ythnadkdfgckijaa.PAll Go.Proofs.Ythnadkdfgckijaa.Mem Go.Proofs.YthnadkdfgckijaaW.PrintWords Go.Proofs.YthnadkdfgckijaaW.PrintLast Go.Proofs.YthnadkdfgckijaaW.PrintMore
set_option linter.unusedVariables false
set_option linter.unusedSimpArgs false
set_option linter.unusedSectionVars false

attribute [local go_sem high] mk26 cut22
theorem WantAt.mono {W : World} {gw : Nat} {H H' : Nat → Prop} {v : Nat → List Int} (h : WantAt W gw H v) (hH : ∀ k, H k → H' k) (hl : ∀ k, H' k → k < W.heap.size) : WantAt W gw H' v := by
  obtain ⟨lt, hg, A, c, h1, h2⟩ := h
  refine ⟨hl, hH _ hg, A, c, h1, fun i hi => ?_⟩
  obtain ⟨a1, a2, a3, a4⟩ := h2 i hi
  exact ⟨a1, a2, a3, fun k q => ⟨hH k (a4 k q).1, (a4 k q).2⟩⟩
theorem ops_nil (w : World) : OpsAt w none 0 [] := ⟨rfl, by decide, fun j h => absurd h (by simp)⟩
theorem write_off {s : DS} {i : Int} {b : List Int} (h : ¬ (placeS s i = 0 ∧ b.length = 256)) : ∃ r, writeS s i b = (r, s) ∧ (r == 0) = false := by
  unfold writeS
  by_cases hp : placeS s i = 0
  · have hb : b.length ≠ 256 := fun e => h ⟨hp, e⟩
    rw [if_neg (by rw [hp]; decide), if_pos hb]
    exact ⟨31, rfl, rfl⟩
  · rw [if_pos hp]
    exact ⟨_, rfl, by simpa using hp⟩
theorem block_256 {w : World} {o1 o2 fill len o5 : Int} {o6 : Value} (hl : (blockL fill len).length = 256) : Calls Try.prog 17 #[.agg #[.int .i64 o1, .int .i64 o2, .int .u8 fill, .int .i64 len, .int .i64 o5, o6]] w fun e w' => ∃ gY, e = .returned (.slice (some ⟨gY, 0, none⟩) 256 256) ∧ Own w' w.heap.size (some ⟨gY, 0, none⟩) 256 (blockL fill len) ∧ Below w.heap.size w w' := by
  have h := block_c w o1 o2 fill len o5 o6
  rw [hl] at h
  exact h
set_option maxRecDepth 100000 in
set_option maxHeartbeats 16000000 in
theorem reads_c {w : World} {A : Option Addr} {n c : Nat} {L : List SOp} (hL : OpsAt w A n L) (hc : n ≤ c) : Calls Try.prog 3 #[.slice A n c] w fun e w' => e = .returned (.bool true) ∧ Below w.heap.size w w' := by
  obtain ⟨m, hm⟩ : ∃ m : Nat, m = min n 120 := ⟨_, rfl⟩
  have hmin : ∀ ats ty, Builtin.min_ ats ty #[.int .i64 (n : Int), .int .i64 120] = pure (.int .i64 (m : Int)) := by
    intro ats ty
    rw [min_two, min2_int]
    have : (if (120 : Int) < (n : Int) then 120 else (n : Int)) = (m : Int) := by split <;> omega
    rw [this]
    rfl
  have hmc : m ≤ c := by omega
  have LA := Aside0.mk hL
  have ML := Aside0.mk (show m ≤ L.length ∧ m ≤ 120 from ⟨by have := hL.len; omega, by omega⟩)
  have MN := Aside0.mk hmin
  have MC := Aside0.mk hmc
  clear hL hc hm hmin hmc
  go_enter Try.func3, Try.ntmps3
  go_wp2_with fail
  refine (played_c (ops_nil w) (Nat.le_refl 0)).mono ?_
  rintro e w1 ⟨g, rfl, hD, hb⟩
  have D1 := Aside0.mk (show Dk w1 g (playS (L.take 0)) (fun k => w.heap.size ≤ k) from hD)
  have K1 := Aside0.mk hb
  clear hD hb
  go_wp2_with fail
  refine (live_c w1).mono ?_
  rintro e w2 ⟨rfl, hb⟩
  replace D1 := Aside0.mk (D1.out.below hb)
  replace K1 := Aside0.mk (K1.out.trans (hb.mono K1.out.size))
  clear hb
  go_wp2_with fail
  obtain ⟨w3, hw3⟩ : ∃ x, x = w2.alloc (.cells #[.slice none 0 0, .slice none 0 0, .slice none 0 0, .slice none 0 0] 27) := ⟨_, rfl⟩
  rw [← hw3]
  have hbn := (Below.refl w2.heap.size w2).alloc (Nat.le_refl _) (.cells #[.slice none 0 0, .slice none 0 0, .slice none 0 0, .slice none 0 0] 27)
  have hn3 := heap_new w2 (.cells #[.slice none 0 0, .slice none 0 0, .slice none 0 0, .slice none 0 0] 27)
  rw [← hw3] at hbn hn3
  have J0 := Aside0.mk (show MadeW w2 w3 w2.heap.size (w2.heap.size + 1) 0 from ⟨by rw [hw3]; simp, fun i hi => absurd hi (by omega), by rw [curN_zero]; exact hn3, hbn, by omega⟩)
  obtain ⟨gw, hgw⟩ : ∃ x, x = w2.heap.size := ⟨_, rfl⟩
  obtain ⟨s0, hs0⟩ : ∃ x, x = w2.heap.size + 1 := ⟨_, rfl⟩
  rw [← hs0] at J0
  have GW := Aside0.mk hgw
  have GK := Aside0.mk (show w.heap.size ≤ w2.heap.size from K1.out.size)
  rw [← hgw] at J0 ⊢
  clear hw3 hbn hn3 hs0 hgw
  go_loopg [18] 4 (fun q v w' => ∃ (k : Nat), v = .int .i64 (k : Int) ∧ Aside0 (k + q = 4) ∧ Aside0 (MadeW w2 w' gw s0 k))
  case atStart => exact ⟨0, rfl, ⟨Nat.zero_add _⟩, J0⟩
  case round =>
    clear J0
    obtain ⟨k, rfl, HJ, JJ⟩ := hrel
    by_cases hlt : k < 4
    case pos =>
      have hgd : decide ((k : Int) < 4) = true := (di_t hlt).1
      have hgd2 : decide (k < 4) = true := (di_t hlt).2
      have HN := Aside0.mk (st_n HJ.out hlt).1
      have HM := Aside0.mk (st_n HJ.out hlt).2
      have HV := Aside0.mk (stepv hlt (by decide))
      have J1 := Aside0.mk (JJ.out.step hlt)
      have hbn := (Below.refl wr.heap.size wr).alloc (Nat.le_refl _) (.cells (rowOf (.int .u8 0) 256) 5)
      have hga := (hbn.block _ (blk_lt JJ.out.blk)).trans JJ.out.blk
      have d1 : (wr.alloc (.cells (rowOf (.int .u8 0) 256) 5)).cell? ⟨gw, k, none⟩ = some (.slice none 0 0) := by rw [blk_cell hga]; simpa using (curN_at s0 4 k k hlt).trans (by rw [if_neg (Nat.lt_irrefl _)])
      have d2 := blk_frozen hga k
      have e9 : s0 + k = wr.heap.size := JJ.out.size.symm
      rw [e9] at J1
      clear hbn hga e9
      go_wp2_with fail
      go_roundg (gk - 1)
      case measure => exact HM.out
      case rel => exact ⟨k + 1, by first | exact HV.out | rfl, HN, J1⟩
    have hke : k = 4 := en_k HJ.out hlt
    subst hke
    have hge : decide (((4 : Nat) : Int) < 4) = false := by decide
    clear hlt HJ
    have WA := Aside0.mk JJ.out.done
    have D3 := Aside0.mk ((D1.out.mono (V' := fun q => w.heap.size ≤ q ∧ ¬ (q = gw ∨ s0 ≤ q ∧ q < s0 + 4)) (fun q h1 h2 => ⟨h1, by have := JJ.out.ne; have := GW.out; omega⟩)).below JJ.out.below)
    have K3 := Aside0.mk (K1.out.trans (JJ.out.below.mono K1.out.size))
    have hmin := MN.out
    have hmc := MC.out
    obtain ⟨wz, hwz⟩ : ∃ x, x = wr := ⟨_, rfl⟩
    rw [← hwz] at WA D3 K3 ⊢
    clear JJ hwz
    go_wp2_with fail
    clear hmin hmc
    go_loopg [31] m (fun q v w' => ∃ (k : Nat) (HS : Nat → Prop) (vs : Nat → List Int), v = .int .i64 (k : Int) ∧ Aside0 (k + q = m) ∧ Aside0 (Dk w' g (playS (L.take k)) (fun q => w.heap.size ≤ q ∧ ¬ HS q)) ∧ Aside0 (WantAt w' gw HS vs) ∧ Aside0 (∀ i, i < 4 → viewS (playS (L.take k)) i = vs i) ∧ Aside0 (Below w.heap.size w w'))
    case atStart => exact ⟨0, _, _, rfl, ⟨Nat.zero_add _⟩, D3, WA, ⟨fun i hi => view_new hi⟩, K3⟩
    case round =>
      clear D3 WA K3 D1 K1
      obtain ⟨k, HS, vs, rfl, HJ, DD, WW, VV, KK⟩ := hrel
      obtain ⟨gK, hgK⟩ : ∃ x : Nat, x = gk := ⟨_, rfl⟩
      subst hgK
      by_cases hlt : k < m
      case pos =>
        have hgd := (di_t hlt).1
        have hgd2 := (di_t hlt).2
        have HN := Aside0.mk (st_n HJ.out hlt).1
        have HM := Aside0.mk (st_n HJ.out hlt).2
        have HV := Aside0.mk (stepv hlt (by have := ML.out.2; omega))
        obtain ⟨ad, Ap, cp, hA, hcells, hcp, hpl, hpc, hpb⟩ := LA.out.at_ k (Nat.lt_of_lt_of_le hlt ML.out.1)
        have NX := Aside0.mk (playS_next L k (Nat.lt_of_lt_of_le hlt ML.out.1))
        have UP := Aside0.mk (Up.play L k (Nat.le_of_lt (Nat.lt_of_lt_of_le hlt ML.out.1)))
        have UN := Aside0.mk (Up.play L (k + 1) (Nat.lt_of_lt_of_le hlt ML.out.1))
        have KM := Aside0.mk (show k ≤ 120 ∧ k + 1 ≤ 120 from ⟨Nat.le_of_lt (Nat.lt_of_lt_of_le hlt ML.out.2), Nat.lt_of_lt_of_le hlt ML.out.2⟩)
        obtain ⟨o, ho⟩ : ∃ o, o = L[k]'(Nat.lt_of_lt_of_le hlt ML.out.1) := ⟨_, rfl⟩
        rw [← ho] at hcells NX
        obtain ⟨np, hvp⟩ : ∃ np, np = o.picks.length := ⟨_, rfl⟩
        rw [← hvp] at hcells
        obtain ⟨s, hs⟩ : ∃ s, s = playS (L.take k) := ⟨_, rfl⟩
        rw [← hs] at NX UP DD VV
        subst hA
        obtain ⟨q0, q1, q2, q3, q4, q5⟩ := hcells.below KK.out
        obtain ⟨o1, o2, o3, o4, o5, op⟩ := o
        simp only at q0 q1 q2 q3 q4
        obtain ⟨sN, hsN⟩ : ∃ s, s = playS (L.take (k + 1)) := ⟨_, rfl⟩
        rw [← hsN] at NX UN
        have SN := Aside0.mk hsN
        clear hcp hpl hpc hpb ho hvp hs hcells HJ hsN
        by_cases d0 : o1 = 0
        case pos =>
          have e1 : (o1 == 0) = true := by simpa using d0
          by_cases hok : placeS s o2 = 0 ∧ (blockL o3 o4).length = 256
          case pos =>
            obtain ⟨hp, hl⟩ := hok
            obtain ⟨hp1, hp2, hp3⟩ := placeS_ok hp
            rw [UP.out.B] at hp3
            obtain ⟨j, rfl⟩ : ∃ j : Nat, o2 = (j : Int) := ⟨o2.toNat, by omega⟩
            have hj : j < 4 := by omega
            have hws := write_up hp hl UP.out.armed
            have WS := Aside0.mk (show writeS s (j : Int) (blockL o3 o4) = (0, sN) from hws.trans (by rw [NX.out]; unfold stepS; rw [if_pos d0]; simp only; rw [hws]))
            have VNW := Aside0.mk (show ∀ i, i < 4 → viewS sN i = (fun i => if i = j then blockL o3 o4 else vs i) i from fun i hi => by
              rw [NX.out]
              unfold stepS
              rw [if_pos d0]
              simp only
              rw [hws, view_put, VV.out i hi]
              by_cases e : i = j
              · rw [if_pos (by omega), if_pos e]
              · rw [if_neg (by omega), if_neg e])
            have LB := Aside0.mk hl
            have GJ := Aside0.mk hj
            clear d0 hws hp hl hp1 hp2 hp3 hj
            go_upto_region 15 with fail
            obtain ⟨w5, hw5⟩ : ∃ x, x = wr.alloc (.cells #[.int .i64 o1, .int .i64 (j : Int), .int .u8 o3, .int .i64 o4, .int .i64 o5, .slice Ap np cp] 29) := ⟨_, rfl⟩
            have hbn := (Below.refl wr.heap.size wr).alloc (Nat.le_refl _) (.cells #[.int .i64 o1, .int .i64 (j : Int), .int .u8 o3, .int .i64 o4, .int .i64 o5, .slice Ap np cp] 29)
            have hn5 := heap_new wr (.cells #[.int .i64 o1, .int .i64 (j : Int), .int .u8 o3, .int .i64 o4, .int .i64 o5, .slice Ap np cp] 29)
            rw [← hw5] at hbn hn5 ⊢
            obtain ⟨g6, hg6⟩ : ∃ x, x = wr.heap.size := ⟨_, rfl⟩
            have hs5 : w5.heap.size = g6 + 1 := by rw [hw5, hg6]; simp
            have D5 := Aside0.mk ((DD.out.mono (V' := fun q => w.heap.size ≤ q ∧ ¬ (HS q ∨ q = g6)) (fun q h1 h2 => ⟨h1.1, fun z => z.elim h1.2 (fun z => by omega)⟩)).below hbn)
            have K5 := Aside0.mk (KK.out.trans (hbn.mono KK.out.size))
            have W5 := Aside0.mk ((WW.out.below hbn).mono (H' := fun q => HS q ∨ q = g6) (fun q z => .inl z) (fun q z => z.elim (fun z => Nat.lt_of_lt_of_le (WW.out.lt q z) hbn.size) (fun z => by omega)))
            rw [← hg6] at hn5 ⊢
            have N5 := Aside0.mk hn5
            have HVV := Aside0.mk (show ∀ q, w5.heap.size ≤ q → w.heap.size ≤ q ∧ ¬ (HS q ∨ q = g6) from fun q z => ⟨Nat.le_trans K5.out.size z, fun y => Nat.lt_irrefl _ (Nat.lt_of_lt_of_le (W5.out.lt q y) z)⟩)
            clear hw5 hbn hn5 hg6 hs5 q0 q1 q2 q3 q4 q5 DD KK WW
            obtain ⟨q0, q1, q2, q3, q4, q5⟩ := six_cells N5.out
            go_region_law (first
              | (refine goes_ Try.func17 (by kernel_rfl) rfl #[.agg #[.int .i64 o1, .int .i64 (j : Int), .int .u8 o3, .int .i64 o4, .int .i64 o5, .slice Ap np cp]] (by rfl) rfl rfl (by (try simp only [List.map_toArray, List.map_cons, List.map_nil]); first | done | rfl) ?_; refine (block_c _ _ _ _ _ _ _).mono ?_; rintro e wb ⟨gY, rfl, hO, hb⟩; refine ⟨_, rfl, ?_⟩; have OB := Aside0.mk (show Own wb w5.heap.size _ _ _ from hO); have BB := Aside0.mk (show Below w5.heap.size w5 wb from (below_drew (Below.refl w5.heap.size w5)).trans hb); have NB := Aside0.mk ((BB.out.block _ (blk_lt N5.out)).trans N5.out); clear hO hb q0 q1 q2 q3 q4 q5; obtain ⟨q0, q1, q2, q3, q4, q5⟩ := six_cells NB.out)
              | (refine goes_ Try.func16 (by kernel_rfl) rfl #[.pointer (some ⟨g, 0, none⟩), .int .i64 (j : Int), .slice (some ⟨gY, 0, none⟩) (blockL o3 o4).length (blockL o3 o4).length] (by rfl) rfl rfl (by (try simp only [List.map_toArray, List.map_cons, List.map_nil]); first | done | rfl) ?_; refine (n_write D5.out BB.out HVV.out (j : Int) OB.out rfl (blockL_bytes _ _) (pl_le UP.out KM.out.1) WS.out).mono ?_; rintro e w6 ⟨rfl, hD, hf⟩; refine ⟨_, rfl, ?_⟩; have D6 := Aside0.mk hD; have K6 := Aside0.mk (hf.below (K5.out.trans (BB.out.mono K5.out.size)) (fun k q => q.1) (Nat.le_trans K5.out.size BB.out.size)); have W6 := Aside0.mk ((W5.out.below BB.out).fr hf (fun k q z => q.2 z)); have N6 := Aside0.mk (fr_blk hf NB.out (fun q => q.2 (.inr rfl))); clear hD hf q0 q1 q2 q3 q4 q5))
            all_goals
              have hj := GJ.out
              have hj1 : decide ((j : Int) < 0) = false := decide_eq_false (by omega)
              have hj3 : (j : Int) < 4 := by omega
              have hj2 : decide (3 < (j : Int)) = false := decide_eq_false (by omega)
              obtain ⟨q0, q1, q2, q3, q4, q5⟩ := six_cells N6.out
              clear NB OB BB D5 K5 N5 W5 WS HVV
              go_upto_region 18 with fail
              go_region_law (refine goes_ Try.func17 (by kernel_rfl) rfl #[.agg #[.int .i64 o1, .int .i64 (j : Int), .int .u8 o3, .int .i64 o4, .int .i64 o5, .slice Ap np cp]] (by rfl) rfl rfl (by (try simp only [List.map_toArray, List.map_cons, List.map_nil]); first | done | rfl) ?_; refine (block_256 LB.out).mono ?_; rintro e wc ⟨gZ, rfl, hO, hb⟩; refine ⟨_, rfl, ?_⟩; have OC := Aside0.mk (show Own wc w6.heap.size _ _ _ from hO); have BC := Aside0.mk (show Below w6.heap.size w6 wc from (below_drew (Below.refl w6.heap.size w6)).trans hb); have NC := Aside0.mk ((BC.out.block _ (blk_lt N6.out)).trans N6.out); have WC := Aside0.mk (W6.out.below BC.out); clear hO hb q0 q1 q2 q3 q4 q5; obtain ⟨q0, q1, q2, q3, q4, q5⟩ := six_cells NC.out; obtain ⟨Aw, cw, c0, f0, vw⟩ := WC.out.cell GJ.out; clear vw)
              all_goals
                have hz := OC.out.blk (by rw [LB.out]; decide)
                have hgZ : w6.heap.size ≤ gZ ∧ gZ < wc.heap.size := own_lt OC.out gZ (by rw [LB.out]; decide) rfl
                clear hz
                obtain ⟨w7, hw7⟩ : ∃ x, x = wc.setCell { block := gw, off := j } (.slice (some { block := gZ, off := 0 }) 256 256) := ⟨_, rfl⟩
                have hne : gZ ≠ gw := fun e => Nat.lt_irrefl _ (Nat.lt_of_lt_of_le (W6.out.lt gw W6.out.hgw) (e ▸ hgZ.1))
                have WN := Aside0.mk (WC.out.put GJ.out LB.out (blockL_bytes o3 o4) (own_lower OC.out (Nat.zero_le _)) hne hw7 hgZ.2)
                have hfr : Fr (· = gw) wc w7 := by rw [hw7]; exact Fr.set (p := ⟨gw, j, none⟩) (Fr.refl (· = gw) wc) rfl _
                have DN := Aside0.mk (((D6.out.mono (V' := fun q => w.heap.size ≤ q ∧ ¬ ((HS q ∨ q = g6) ∨ q = gZ)) (fun q h1 h2 => ⟨h1.1, fun z => z.elim h1.2 (fun z => by omega)⟩)).below BC.out).fr hfr (fun q h1 h2 => h1.2 (.inl (by rw [h2]; exact W6.out.hgw))))
                have KN := Aside0.mk (show Below w.heap.size w w7 from by rw [hw7]; exact (K6.out.trans (BC.out.mono K6.out.size)).setCell (p := ⟨gw, j, none⟩) (by have := GW.out; have := GK.out; show _ ≤ gw; omega) _)
                rw [← hw7]
                clear hw7 hne hfr hgZ c0 f0 WC NC OC BC D6 K6 W6 N6 q0 q1 q2 q3 q4 q5 hj hj1 hj2 hj3
                have OKS := Aside0.mk (show BlkOk sN.B ∧ PenOk sN.B.length sN.P from DN.out.ok)
                try (clear q0 q1 q2 q3 q4 q5)
                go_wp2_with fail
                go_loopg [64] 4 (fun q v w' => ∃ (i : Nat), v = .int .i64 (i : Int) ∧ Aside0 (i + q = 4) ∧ Aside0 (Below w7.heap.size w7 w'))
                case atStart => exact ⟨0, rfl, ⟨Nat.zero_add _⟩, ⟨Below.refl _ _⟩⟩
                case round =>
                  obtain ⟨i, rfl, HI, B7⟩ := hrel
                  by_cases hli : i < 4
                  case pos =>
                    have hgi : decide ((i : Int) < 4) = true := (di_t hli).1
                    have hgi2 : decide (i < 4) = true := (di_t hli).2
                    have HIN := Aside0.mk (st_n HI.out hli).1
                    have HIM := Aside0.mk (st_n HI.out hli).2
                    have HIV := Aside0.mk (stepv hli (by decide))
                    have LI := Aside0.mk hli
                    have VO := Aside0.mk (view_ok OKS.out.1 OKS.out.2 (i := i) (by rw [UN.out.B]; exact hli))
                    clear HI
                    go_wp2_with fail
                    refine (n_read (DN.out.below B7.out) (i : Int) (pl_le UN.out KM.out.2) (read_up UN.out hli)).mono ?_
                    rintro e wn ⟨Y, yd, rfl, hO, hb⟩
                    rw [VO.out.1]
                    have BN := Aside0.mk (B7.out.trans (hb.mono B7.out.size))
                    have RO := Aside0.mk hO
                    obtain ⟨Aw, cw, c0, f0, vl, vb, vo⟩ := (WN.out.below BN.out).cell LI.out
                    have VE := Aside0.mk (VNW.out i LI.out)
                    have VL := Aside0.mk (And.intro vl (And.intro vb vo))
                    clear hO hb vl vb vo
                    go_wp2_with fail
                    refine (equal_c RO.out.C VL.out.2.2.C VO.out.1 VL.out.1 (by have := RO.out.cap; rw [VO.out.1] at this; exact this) (by have := VL.out.2.2.cap; rw [VL.out.1] at this; exact this) VO.out.2 VL.out.2.1).mono ?_
                    rintro e wm ⟨rfl, hb⟩
                    rw [decide_eq_true VE.out]
                    have BM := Aside0.mk (BN.out.trans (hb.mono BN.out.size))
                    clear hb c0 f0 RO VL VE
                    go_wp2_with fail
                    go_roundg (gk - 1)
                    case measure => exact HIM.out
                    case rel => exact ⟨i + 1, by first | exact HIV.out | rfl, HIN, BM⟩
                  have hie : i = 4 := en_k HI.out hli
                  subst hie
                  have hgi : decide (((4 : Nat) : Int) < 4) = false := by decide
                  clear hli HI
                  go_wp2_with fail
                  go_roundg (gK - 1)
                  case measure => exact HM.out
                  case rel => exact ⟨k + 1, _, _, by first | exact HV.out | rfl, HN, ⟨by rw [← SN.out]; exact DN.out.below B7.out⟩, ⟨WN.out.below B7.out⟩, ⟨by rw [← SN.out]; exact VNW.out⟩, ⟨KN.out.trans (B7.out.mono KN.out.size)⟩⟩
          case neg =>
            obtain ⟨r, hws, hr0⟩ := write_off hok
            have hsN : sN = s := by
              rw [NX.out]
              unfold stepS
              rw [if_pos d0]
              simp only
              rw [hws]
            have VNW := Aside0.mk (show ∀ i, i < 4 → viewS sN i = vs i from fun i hi => by rw [hsN]; exact VV.out i hi)
            have WS := Aside0.mk (show writeS s o2 (blockL o3 o4) = (r, sN) from by rw [hsN]; exact hws)
            clear d0 hws hok hsN
            go_upto_region 15 with fail
            obtain ⟨w5, hw5⟩ : ∃ x, x = wr.alloc (.cells #[.int .i64 o1, .int .i64 o2, .int .u8 o3, .int .i64 o4, .int .i64 o5, .slice Ap np cp] 29) := ⟨_, rfl⟩
            have hbn := (Below.refl wr.heap.size wr).alloc (Nat.le_refl _) (.cells #[.int .i64 o1, .int .i64 o2, .int .u8 o3, .int .i64 o4, .int .i64 o5, .slice Ap np cp] 29)
            have hn5 := heap_new wr (.cells #[.int .i64 o1, .int .i64 o2, .int .u8 o3, .int .i64 o4, .int .i64 o5, .slice Ap np cp] 29)
            rw [← hw5] at hbn hn5 ⊢
            obtain ⟨g6, hg6⟩ : ∃ x, x = wr.heap.size := ⟨_, rfl⟩
            have hs5 : w5.heap.size = g6 + 1 := by rw [hw5, hg6]; simp
            have D5 := Aside0.mk ((DD.out.mono (V' := fun q => w.heap.size ≤ q ∧ ¬ (HS q ∨ q = g6)) (fun q h1 h2 => ⟨h1.1, fun z => z.elim h1.2 (fun z => by omega)⟩)).below hbn)
            have K5 := Aside0.mk (KK.out.trans (hbn.mono KK.out.size))
            have W5 := Aside0.mk ((WW.out.below hbn).mono (H' := fun q => HS q ∨ q = g6) (fun q z => .inl z) (fun q z => z.elim (fun z => Nat.lt_of_lt_of_le (WW.out.lt q z) hbn.size) (fun z => by omega)))
            rw [← hg6] at hn5 ⊢
            have N5 := Aside0.mk hn5
            have HVV := Aside0.mk (show ∀ q, w5.heap.size ≤ q → w.heap.size ≤ q ∧ ¬ (HS q ∨ q = g6) from fun q z => ⟨Nat.le_trans K5.out.size z, fun y => Nat.lt_irrefl _ (Nat.lt_of_lt_of_le (W5.out.lt q y) z)⟩)
            clear hw5 hbn hn5 hg6 hs5 q0 q1 q2 q3 q4 q5 DD KK WW
            obtain ⟨q0, q1, q2, q3, q4, q5⟩ := six_cells N5.out
            go_region_law (first
              | (refine goes_ Try.func17 (by kernel_rfl) rfl #[.agg #[.int .i64 o1, .int .i64 o2, .int .u8 o3, .int .i64 o4, .int .i64 o5, .slice Ap np cp]] (by rfl) rfl rfl (by (try simp only [List.map_toArray, List.map_cons, List.map_nil]); first | done | rfl) ?_; refine (block_c _ _ _ _ _ _ _).mono ?_; rintro e wb ⟨gY, rfl, hO, hb⟩; refine ⟨_, rfl, ?_⟩; have OB := Aside0.mk (show Own wb w5.heap.size _ _ _ from hO); have BB := Aside0.mk (show Below w5.heap.size w5 wb from (below_drew (Below.refl w5.heap.size w5)).trans hb); have NB := Aside0.mk ((BB.out.block _ (blk_lt N5.out)).trans N5.out); clear hO hb q0 q1 q2 q3 q4 q5; obtain ⟨q0, q1, q2, q3, q4, q5⟩ := six_cells NB.out)
              | (refine goes_ Try.func16 (by kernel_rfl) rfl #[.pointer (some ⟨g, 0, none⟩), .int .i64 o2, .slice (some ⟨gY, 0, none⟩) (blockL o3 o4).length (blockL o3 o4).length] (by rfl) rfl rfl (by (try simp only [List.map_toArray, List.map_cons, List.map_nil]); first | done | rfl) ?_; refine (n_write D5.out BB.out HVV.out o2 OB.out rfl (blockL_bytes _ _) (pl_le UP.out KM.out.1) WS.out).mono ?_; rintro e w6 ⟨rfl, hD, hf⟩; refine ⟨_, rfl, ?_⟩; have D6 := Aside0.mk hD; have K6 := Aside0.mk (hf.below (K5.out.trans (BB.out.mono K5.out.size)) (fun k q => q.1) (Nat.le_trans K5.out.size BB.out.size)); have W6 := Aside0.mk ((W5.out.below BB.out).fr hf (fun k q z => q.2 z)); have N6 := Aside0.mk (fr_blk hf NB.out (fun q => q.2 (.inr rfl))); clear hD hf q0 q1 q2 q3 q4 q5))
            all_goals
              obtain ⟨w7, hw7⟩ : ∃ x, x = w6 := ⟨_, rfl⟩
              rw [← hw7] at D6 K6 W6 ⊢
              have DN := D6
              have WN := W6
              have KN := K6
              clear NB OB BB D5 K5 N5 W5 WS HVV N6 hw7 D6 K6 W6
              have OKS := Aside0.mk (show BlkOk sN.B ∧ PenOk sN.B.length sN.P from DN.out.ok)
              try (clear q0 q1 q2 q3 q4 q5)
              go_wp2_with fail
              go_loopg [64] 4 (fun q v w' => ∃ (i : Nat), v = .int .i64 (i : Int) ∧ Aside0 (i + q = 4) ∧ Aside0 (Below w7.heap.size w7 w'))
              case atStart => exact ⟨0, rfl, ⟨Nat.zero_add _⟩, ⟨Below.refl _ _⟩⟩
              case round =>
                obtain ⟨i, rfl, HI, B7⟩ := hrel
                by_cases hli : i < 4
                case pos =>
                  have hgi : decide ((i : Int) < 4) = true := (di_t hli).1
                  have hgi2 : decide (i < 4) = true := (di_t hli).2
                  have HIN := Aside0.mk (st_n HI.out hli).1
                  have HIM := Aside0.mk (st_n HI.out hli).2
                  have HIV := Aside0.mk (stepv hli (by decide))
                  have LI := Aside0.mk hli
                  have VO := Aside0.mk (view_ok OKS.out.1 OKS.out.2 (i := i) (by rw [UN.out.B]; exact hli))
                  clear HI
                  go_wp2_with fail
                  refine (n_read (DN.out.below B7.out) (i : Int) (pl_le UN.out KM.out.2) (read_up UN.out hli)).mono ?_
                  rintro e wn ⟨Y, yd, rfl, hO, hb⟩
                  rw [VO.out.1]
                  have BN := Aside0.mk (B7.out.trans (hb.mono B7.out.size))
                  have RO := Aside0.mk hO
                  obtain ⟨Aw, cw, c0, f0, vl, vb, vo⟩ := (WN.out.below BN.out).cell LI.out
                  have VE := Aside0.mk (VNW.out i LI.out)
                  have VL := Aside0.mk (And.intro vl (And.intro vb vo))
                  clear hO hb vl vb vo
                  go_wp2_with fail
                  refine (equal_c RO.out.C VL.out.2.2.C VO.out.1 VL.out.1 (by have := RO.out.cap; rw [VO.out.1] at this; exact this) (by have := VL.out.2.2.cap; rw [VL.out.1] at this; exact this) VO.out.2 VL.out.2.1).mono ?_
                  rintro e wm ⟨rfl, hb⟩
                  rw [decide_eq_true VE.out]
                  have BM := Aside0.mk (BN.out.trans (hb.mono BN.out.size))
                  clear hb c0 f0 RO VL VE
                  go_wp2_with fail
                  go_roundg (gk - 1)
                  case measure => exact HIM.out
                  case rel => exact ⟨i + 1, by first | exact HIV.out | rfl, HIN, BM⟩
                have hie : i = 4 := en_k HI.out hli
                subst hie
                have hgi : decide (((4 : Nat) : Int) < 4) = false := by decide
                clear hli HI
                go_wp2_with fail
                go_roundg (gK - 1)
                case measure => exact HM.out
                case rel => exact ⟨k + 1, _, _, by first | exact HV.out | rfl, HN, ⟨by rw [← SN.out]; exact DN.out.below B7.out⟩, ⟨WN.out.below B7.out⟩, ⟨by rw [← SN.out]; exact VNW.out⟩, ⟨KN.out.trans (B7.out.mono KN.out.size)⟩⟩
        case neg =>
          have e1 : (o1 == 0) = false := by simpa using d0
          have hbn := (Below.refl wr.heap.size wr).alloc (Nat.le_refl _) (.cells #[.int .i64 o1, .int .i64 o2, .int .u8 o3, .int .i64 o4, .int .i64 o5, .slice Ap np cp] 29)
          have D5 := Aside0.mk (DD.out.below hbn)
          have W5 := Aside0.mk (WW.out.below hbn)
          have K5 := Aside0.mk (KK.out.trans (hbn.mono KK.out.size))
          clear hbn DD KK WW
          by_cases d1 : o1 = 1
          case pos =>
            have e2 : (o1 == 1) = true := by simpa using d1
            have hws := flush_up UP.out.off UP.out.armed
            have VNW := Aside0.mk (show ∀ i, i < 4 → viewS sN i = vs i from fun i hi => by
              rw [NX.out]
              unfold stepS
              rw [if_neg d0, if_pos d1, hws, view_flush D5.out.ok.1 D5.out.ok.2 _ (by rw [UP.out.B]; exact hi)]
              exact VV.out i hi)
            have WS := Aside0.mk (show flushS s = (0, sN) from hws.trans (by rw [NX.out]; unfold stepS; rw [if_neg d0, if_pos d1, hws]))
            clear d0 d1 hws
            go_wp2_with fail
            refine (n_flush D5.out WS.out).mono ?_
            rintro e w7 ⟨rfl, hD, hf⟩
            have DN := Aside0.mk hD
            have WN := Aside0.mk (W5.out.fr hf (fun k q z => q.2 z))
            have KN := Aside0.mk (hf.below K5.out (fun k q => q.1) K5.out.size)
            clear hD hf WS D5 W5 K5
            have OKS := Aside0.mk (show BlkOk sN.B ∧ PenOk sN.B.length sN.P from DN.out.ok)
            try (clear q0 q1 q2 q3 q4 q5)
            go_wp2_with fail
            go_loopg [64] 4 (fun q v w' => ∃ (i : Nat), v = .int .i64 (i : Int) ∧ Aside0 (i + q = 4) ∧ Aside0 (Below w7.heap.size w7 w'))
            case atStart => exact ⟨0, rfl, ⟨Nat.zero_add _⟩, ⟨Below.refl _ _⟩⟩
            case round =>
              obtain ⟨i, rfl, HI, B7⟩ := hrel
              by_cases hli : i < 4
              case pos =>
                have hgi : decide ((i : Int) < 4) = true := (di_t hli).1
                have hgi2 : decide (i < 4) = true := (di_t hli).2
                have HIN := Aside0.mk (st_n HI.out hli).1
                have HIM := Aside0.mk (st_n HI.out hli).2
                have HIV := Aside0.mk (stepv hli (by decide))
                have LI := Aside0.mk hli
                have VO := Aside0.mk (view_ok OKS.out.1 OKS.out.2 (i := i) (by rw [UN.out.B]; exact hli))
                clear HI
                go_wp2_with fail
                refine (n_read (DN.out.below B7.out) (i : Int) (pl_le UN.out KM.out.2) (read_up UN.out hli)).mono ?_
                rintro e wn ⟨Y, yd, rfl, hO, hb⟩
                rw [VO.out.1]
                have BN := Aside0.mk (B7.out.trans (hb.mono B7.out.size))
                have RO := Aside0.mk hO
                obtain ⟨Aw, cw, c0, f0, vl, vb, vo⟩ := (WN.out.below BN.out).cell LI.out
                have VE := Aside0.mk (VNW.out i LI.out)
                have VL := Aside0.mk (And.intro vl (And.intro vb vo))
                clear hO hb vl vb vo
                go_wp2_with fail
                refine (equal_c RO.out.C VL.out.2.2.C VO.out.1 VL.out.1 (by have := RO.out.cap; rw [VO.out.1] at this; exact this) (by have := VL.out.2.2.cap; rw [VL.out.1] at this; exact this) VO.out.2 VL.out.2.1).mono ?_
                rintro e wm ⟨rfl, hb⟩
                rw [decide_eq_true VE.out]
                have BM := Aside0.mk (BN.out.trans (hb.mono BN.out.size))
                clear hb c0 f0 RO VL VE
                go_wp2_with fail
                go_roundg (gk - 1)
                case measure => exact HIM.out
                case rel => exact ⟨i + 1, by first | exact HIV.out | rfl, HIN, BM⟩
              have hie : i = 4 := en_k HI.out hli
              subst hie
              have hgi : decide (((4 : Nat) : Int) < 4) = false := by decide
              clear hli HI
              go_wp2_with fail
              go_roundg (gK - 1)
              case measure => exact HM.out
              case rel => exact ⟨k + 1, _, _, by first | exact HV.out | rfl, HN, ⟨by rw [← SN.out]; exact DN.out.below B7.out⟩, ⟨WN.out.below B7.out⟩, ⟨by rw [← SN.out]; exact VNW.out⟩, ⟨KN.out.trans (B7.out.mono KN.out.size)⟩⟩
          case neg =>
            have e2 : (o1 == 1) = false := by simpa using d1
            obtain ⟨w7, hw7⟩ : ∃ x, x = wr.alloc (.cells #[.int .i64 o1, .int .i64 o2, .int .u8 o3, .int .i64 o4, .int .i64 o5, .slice Ap np cp] 29) := ⟨_, rfl⟩
            rw [← hw7] at D5 W5 K5
            have hsN : sN = s := by rw [NX.out]; unfold stepS; rw [if_neg d0, if_neg d1]
            have VNW := Aside0.mk (show ∀ i, i < 4 → viewS sN i = vs i from fun i hi => by rw [hsN]; exact VV.out i hi)
            have DN := Aside0.mk (show Dk w7 g sN _ from by rw [hsN]; exact D5.out)
            have WN := W5
            have KN := K5
            clear d0 d1 hsN D5 W5 K5
            go_wp2_with fail
            rw [← hw7]
            clear hw7
            have OKS := Aside0.mk (show BlkOk sN.B ∧ PenOk sN.B.length sN.P from DN.out.ok)
            try (clear q0 q1 q2 q3 q4 q5)
            go_loopg [64] 4 (fun q v w' => ∃ (i : Nat), v = .int .i64 (i : Int) ∧ Aside0 (i + q = 4) ∧ Aside0 (Below w7.heap.size w7 w'))
            case atStart => exact ⟨0, rfl, ⟨Nat.zero_add _⟩, ⟨Below.refl _ _⟩⟩
            case round =>
              obtain ⟨i, rfl, HI, B7⟩ := hrel
              by_cases hli : i < 4
              case pos =>
                have hgi : decide ((i : Int) < 4) = true := (di_t hli).1
                have hgi2 : decide (i < 4) = true := (di_t hli).2
                have HIN := Aside0.mk (st_n HI.out hli).1
                have HIM := Aside0.mk (st_n HI.out hli).2
                have HIV := Aside0.mk (stepv hli (by decide))
                have LI := Aside0.mk hli
                have VO := Aside0.mk (view_ok OKS.out.1 OKS.out.2 (i := i) (by rw [UN.out.B]; exact hli))
                clear HI
                go_wp2_with fail
                refine (n_read (DN.out.below B7.out) (i : Int) (pl_le UN.out KM.out.2) (read_up UN.out hli)).mono ?_
                rintro e wn ⟨Y, yd, rfl, hO, hb⟩
                rw [VO.out.1]
                have BN := Aside0.mk (B7.out.trans (hb.mono B7.out.size))
                have RO := Aside0.mk hO
                obtain ⟨Aw, cw, c0, f0, vl, vb, vo⟩ := (WN.out.below BN.out).cell LI.out
                have VE := Aside0.mk (VNW.out i LI.out)
                have VL := Aside0.mk (And.intro vl (And.intro vb vo))
                clear hO hb vl vb vo
                go_wp2_with fail
                refine (equal_c RO.out.C VL.out.2.2.C VO.out.1 VL.out.1 (by have := RO.out.cap; rw [VO.out.1] at this; exact this) (by have := VL.out.2.2.cap; rw [VL.out.1] at this; exact this) VO.out.2 VL.out.2.1).mono ?_
                rintro e wm ⟨rfl, hb⟩
                rw [decide_eq_true VE.out]
                have BM := Aside0.mk (BN.out.trans (hb.mono BN.out.size))
                clear hb c0 f0 RO VL VE
                go_wp2_with fail
                go_roundg (gk - 1)
                case measure => exact HIM.out
                case rel => exact ⟨i + 1, by first | exact HIV.out | rfl, HIN, BM⟩
              have hie : i = 4 := en_k HI.out hli
              subst hie
              have hgi : decide (((4 : Nat) : Int) < 4) = false := by decide
              clear hli HI
              go_wp2_with fail
              go_roundg (gK - 1)
              case measure => exact HM.out
              case rel => exact ⟨k + 1, _, _, by first | exact HV.out | rfl, HN, ⟨by rw [← SN.out]; exact DN.out.below B7.out⟩, ⟨WN.out.below B7.out⟩, ⟨by rw [← SN.out]; exact VNW.out⟩, ⟨KN.out.trans (B7.out.mono KN.out.size)⟩⟩
      have hke : k = m := en_k HJ.out hlt
      have hge := (di_f hke).1
      have hge2 := (di_f hke).2
      clear hlt hke HJ
      go_wp2_with fail
      go_ret
      exact ⟨rfl, KK.out⟩
end Go.Proofs.Ythnadkdfgckijaa.Pure
