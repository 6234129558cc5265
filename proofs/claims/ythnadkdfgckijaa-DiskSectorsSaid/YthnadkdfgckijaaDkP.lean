/- A script, as it lies in memory; a disk behind one: walked. -/
import Derived.Test.YthnadkdfgckijaaDkL
namespace Go.Proofs.Ythnadkdfgckijaa.Pure
open Go.RowKit Go.Proofs.Ythnadkdfgckijaa Go.Proofs.Ythnadkdfgckijaa.PAll Go.Proofs.Ythnadkdfgckijaa.Mem Go.Proofs.YthnadkdfgckijaaW.PrintWords Go.Proofs.YthnadkdfgckijaaW.PrintLast Go.Proofs.YthnadkdfgckijaaW.PrintMore
set_option linter.unusedVariables false
set_option linter.unusedSimpArgs false
set_option linter.unusedSectionVars false

/-- An operation of a script. -/
structure SOp where
  do_ : Int
  blk : Int
  fill : Int
  len : Int
  n : Int
  picks : List Int
/-- Where an operation's cells stand. -/
def OpCells (W : World) (a : Addr) (o : SOp) (vp : Value) : Prop :=
  W.cell? a = some (.int .i64 o.do_) ∧ W.cell? ⟨a.block, a.off + 1, none⟩ = some (.int .i64 o.blk) ∧ W.cell? ⟨a.block, a.off + 2, none⟩ = some (.int .u8 o.fill) ∧ W.cell? ⟨a.block, a.off + 3, none⟩ = some (.int .i64 o.len) ∧ W.cell? ⟨a.block, a.off + 4, none⟩ = some (.int .i64 o.n) ∧ W.cell? ⟨a.block, a.off + 5, none⟩ = some vp
/-- A script. -/
structure OpsAt (W : World) (A : Option Addr) (n : Nat) (L : List SOp) : Prop where
  len : L.length = n
  max : n ≤ 140737488351232
  at_ : ∀ j (h : j < L.length), ∃ ad Ap cp, A = some ad ∧ OpCells W (ad.add (j * 6)) L[j] (.slice Ap L[j].picks.length cp) ∧ L[j].picks.length ≤ cp ∧ L[j].picks.length ≤ 140737488351232 ∧ Kd.C (Kd.int .u8) W Ap L[j].picks.length L[j].picks ∧ Bytes L[j].picks
theorem cell_below {w0 W : World} (hb : Below w0.heap.size w0 W) {a : Addr} {v : Value} (h : w0.cell? a = some v) : W.cell? a = some v :=
  (World.cell?_of_block (hb.block _ (World.block_lt_of_cell? w0 a h))).trans h
theorem OpCells.below {w0 W : World} (hb : Below w0.heap.size w0 W) {a : Addr} {o : SOp} {vp : Value} (h : OpCells w0 a o vp) : OpCells W a o vp :=
  ⟨cell_below hb h.1, cell_below hb h.2.1, cell_below hb h.2.2.1, cell_below hb h.2.2.2.1, cell_below hb h.2.2.2.2.1, cell_below hb h.2.2.2.2.2⟩
theorem F_arg {w : World} {A : Option Addr} {n : Nat} {l : List Int} (h : Kd.C (Kd.int .u8) w A n l) : Kd.F (Kd.int .u8) w (fun k => k < w.heap.size) A n l := fun W' hW => (Kd.heap_int .u8).C (fun k hk => hW k hk hk) h
theorem cut22 (A : Option Addr) (n c hi : Nat) (h2 : hi ≤ c) (W : World) : (Instr.slice 22 (.slice A n c) none (some (.int .i64 (hi : Int))) none).run Try.prog W = .ok (.slice A hi c) W := by
  have info29 : (Try.prog.info? 29).map (·.size) = some 6 := by kernel_rfl
  obtain ⟨i, hi0, hz⟩ := Option.map_eq_some_iff.1 info29
  have hu : Try.prog.underlying 22 = some (.slice (Try.prog.elem 22)) := by
    have : Try.prog.elem 22 = 29 := by simp [Program.elem, Try.underlying22]
    rw [this]; exact Try.underlying22
  have he : Try.prog.elem 22 = 29 := by simp [Program.elem, Try.underlying22]
  rw [run_slice_h W 22 A n c hu .i64 (hi : Int) (by omega) (by omega), he]
  have := cutP_zero A c
  unfold cutP at this
  simp [sizeOf, typeInfo, hi0, hz, sliced, Result.andThen]
  simpa using this
attribute [local go_sem high] cut22
def stepS (s : DS) (o : SOp) : DS := if o.do_ = 0 then (writeS s o.blk (blockL o.fill o.len)).2 else if o.do_ = 1 then (flushS s).2 else s
def playS (L : List SOp) : DS := L.foldl stepS (newS 4)
theorem playS_next (L : List SOp) (k : Nat) (h : k < L.length) : playS (L.take (k + 1)) = stepS (playS (L.take k)) L[k] := by
  unfold playS
  rw [List.take_add_one, List.getElem?_eq_getElem h, List.foldl_append]
  rfl
/-- A disk whose power has not gone. -/
structure Up (m : Nat) (s : DS) : Prop where
  off : s.off = false
  armed : s.armed = 0
  picks : s.picks = []
  B : s.B.length = 4
  P : s.P.length ≤ m
theorem Up.step {m : Nat} {s : DS} (h : Up m s) (o : SOp) : Up (m + 1) (stepS s o) := by
  unfold stepS
  have w1 : Up (m + 1) s := ⟨h.off, h.armed, h.picks, h.B, Nat.le_succ_of_le h.P⟩
  split
  · by_cases hp : placeS s o.blk = 0
    · by_cases hb : (blockL o.fill o.len).length = 256
      · rw [write_up hp hb h.armed]
        exact ⟨h.off, h.armed, h.picks, h.B, by simp; exact h.P⟩
      · unfold writeS
        rw [if_neg (by rw [hp]; decide), if_pos hb]
        exact w1
    · unfold writeS
      rw [if_pos hp]
      exact w1
  · split
    · rw [flush_up h.off h.armed]
      exact ⟨h.off, h.armed, h.picks, by rw [show (_ : DS).B = flushB s.B s.P from rfl, flushB_len]; exact h.B, Nat.zero_le _⟩
    · exact w1
theorem Up.play (L : List SOp) : ∀ k, k ≤ L.length → Up k (playS (L.take k))
  | 0, _ => ⟨rfl, rfl, rfl, rfl, Nat.le_refl _⟩
  | k + 1, h => by rw [playS_next L k h]; exact (Up.play L k (by omega)).step _
theorem six_cells {W : World} {g : Nat} {a b c d e f : Value} {t : TypeId} (h : W.heap[g]? = some (.cells #[a, b, c, d, e, f] t (0, 0))) : W.cell? ⟨g, 0, none⟩ = some a ∧ W.cell? ⟨g, 1, none⟩ = some b ∧ W.cell? ⟨g, 2, none⟩ = some c ∧ W.cell? ⟨g, 3, none⟩ = some d ∧ W.cell? ⟨g, 4, none⟩ = some e ∧ W.cell? ⟨g, 5, none⟩ = some f := by
  refine ⟨?_, ?_, ?_, ?_, ?_, ?_⟩ <;> (rw [blk_cell h]; rfl)
theorem pl_le {m : Nat} {s : DS} (h : Up m s) (hm : m ≤ 120) : s.P.length ≤ 1000000 := by have := h.P; omega
set_option maxRecDepth 100000 in
set_option maxHeartbeats 16000000 in
theorem played_c {w : World} {A : Option Addr} {n c : Nat} {L : List SOp} (hL : OpsAt w A n L) (hc : n ≤ c) : Calls Try.prog 14 #[.slice A n c] w fun e w' => ∃ g, e = .returned (.pointer (some ⟨g, 0, none⟩)) ∧ Dk w' g (playS (L.take 120)) (fun k => w.heap.size ≤ k) ∧ Below w.heap.size w w' := by
  obtain ⟨m, hm⟩ : ∃ m : Nat, m = min n 120 := ⟨_, rfl⟩
  have hmin : ∀ ats ty, Builtin.min_ ats ty #[.int .i64 (n : Int), .int .i64 120] = pure (.int .i64 (m : Int)) := by
    intro ats ty
    rw [min_two, min2_int]
    have : (if (120 : Int) < (n : Int) then 120 else (n : Int)) = (m : Int) := by split <;> omega
    rw [this]
    rfl
  have hmc : m ≤ c := by omega
  have LA := Aside0.mk hL
  have ML := Aside0.mk (show m ≤ L.length ∧ m ≤ 120 ∧ L.take m = L.take 120 from ⟨by have := hL.len; omega, by omega, by
    rcases Nat.le_total n 120 with h | h
    · have e : m = n := by omega
      rw [e, List.take_of_length_le (by have := hL.len; omega), List.take_of_length_le (by have := hL.len; omega)]
    · have e : m = 120 := by omega
      rw [e]⟩)
  clear hL hc hm
  go_enter Try.func14, Try.ntmps14
  go_wp2_with fail
  refine (new_ok w 4 (by decide) (by decide)).mono ?_
  rintro e w1 ⟨g, rfl, hg, hD, hb⟩
  have D1 := Aside0.mk (show Dk w1 g (playS (L.take 0)) (fun k => w.heap.size ≤ k) from ⟨_, hD, fun k q => q.1⟩)
  have K1 := Aside0.mk hb
  clear hg hD hb
  go_wp2_with fail
  have HVV := Aside0.mk (show ∀ W : World, Below w.heap.size w W → ∀ k, W.heap.size ≤ k → w.heap.size ≤ k from fun W h k q => Nat.le_trans h.size q)
  clear hmin hmc
  go_loopg [23] m (fun q v w' => ∃ (k : Nat), v = .int .i64 (k : Int) ∧ Aside0 (k + q = m) ∧ Aside0 (Dk w' g (playS (L.take k)) (fun k => w.heap.size ≤ k)) ∧ Aside0 (Below w.heap.size w w'))
  case atStart => exact ⟨0, rfl, ⟨Nat.zero_add _⟩, D1, K1⟩
  case round =>
    clear D1 K1
    obtain ⟨k, rfl, HJ, DD, KK⟩ := hrel
    by_cases hlt : k < m
    case pos =>
      have hgd := (di_t hlt).1
      have hgd2 := (di_t hlt).2
      have HN := Aside0.mk (st_n HJ.out hlt).1
      have HM := Aside0.mk (st_n HJ.out hlt).2
      have HV := Aside0.mk (stepv hlt (by have := ML.out.2.1; omega))
      obtain ⟨ad, Ap, cp, hA, hcells, hcp, hpl, hpc, hpb⟩ := LA.out.at_ k (Nat.lt_of_lt_of_le hlt ML.out.1)
      have NX := Aside0.mk (playS_next L k (Nat.lt_of_lt_of_le hlt ML.out.1))
      have UP := Aside0.mk (Up.play L k (Nat.le_of_lt (Nat.lt_of_lt_of_le hlt ML.out.1)))
      have KM := Aside0.mk (show k ≤ 120 from Nat.le_of_lt (Nat.lt_of_lt_of_le hlt ML.out.2.1))
      obtain ⟨o, ho⟩ : ∃ o, o = L[k]'(Nat.lt_of_lt_of_le hlt ML.out.1) := ⟨_, rfl⟩
      rw [← ho] at hcells NX
      obtain ⟨np, hvp⟩ : ∃ np, np = o.picks.length := ⟨_, rfl⟩
      rw [← hvp] at hcells
      obtain ⟨s, hs⟩ : ∃ s, s = playS (L.take k) := ⟨_, rfl⟩
      rw [← hs] at NX UP DD
      subst hA
      obtain ⟨q0, q1, q2, q3, q4, q5⟩ := hcells.below KK.out
      obtain ⟨o1, o2, o3, o4, o5, op⟩ := o
      simp only at q0 q1 q2 q3 q4
      clear hcp hpl hpc hpb ho hvp hs hcells HJ
      by_cases d0 : o1 = 0
      case pos =>
        have e1 : (o1 == 0) = true := by simpa using d0
        obtain ⟨⟨r, s2⟩, hws⟩ : ∃ x, x = writeS s o2 (blockL o3 o4) := ⟨_, rfl⟩
        have WS := Aside0.mk hws.symm
        have N2 := Aside0.mk (show playS (L.take (k + 1)) = s2 from by rw [NX.out]; unfold stepS; rw [if_pos d0]; simp only; rw [← hws])
        clear d0 hws
        go_upto_region 9 with fail
        obtain ⟨w5, hw5⟩ : ∃ x, x = wr.alloc (.cells #[.int .i64 o1, .int .i64 o2, .int .u8 o3, .int .i64 o4, .int .i64 o5, .slice Ap np cp] 29) := ⟨_, rfl⟩
        have hbn := (Below.refl wr.heap.size wr).alloc (Nat.le_refl _) (.cells #[.int .i64 o1, .int .i64 o2, .int .u8 o3, .int .i64 o4, .int .i64 o5, .slice Ap np cp] 29)
        have hn5 := heap_new wr (.cells #[.int .i64 o1, .int .i64 o2, .int .u8 o3, .int .i64 o4, .int .i64 o5, .slice Ap np cp] 29)
        rw [← hw5] at hbn hn5 ⊢
        have D5 := Aside0.mk (DD.out.below hbn)
        have K5 := Aside0.mk (KK.out.trans (hbn.mono KK.out.size))
        have N5 := Aside0.mk hn5
        obtain ⟨g6, hg6⟩ : ∃ x, x = wr.heap.size := ⟨_, rfl⟩
        rw [← hg6] at N5 ⊢
        clear hw5 hbn hn5 hg6 q0 q1 q2 q3 q4 q5 DD KK
        obtain ⟨q0, q1, q2, q3, q4, q5⟩ := six_cells N5.out
        go_region_law (first
          | (refine goes_ Try.func17 (by kernel_rfl) rfl #[.agg #[.int .i64 o1, .int .i64 o2, .int .u8 o3, .int .i64 o4, .int .i64 o5, .slice Ap np cp]] (by rfl) rfl rfl (by (try simp only [List.map_toArray, List.map_cons, List.map_nil]); first | done | rfl) ?_; refine (block_c _ _ _ _ _ _ _).mono ?_; rintro e wb ⟨gY, rfl, hO, hb⟩; refine ⟨_, rfl, ?_⟩; have OB := Aside0.mk (show Own wb w5.heap.size _ _ _ from hO); have BB := Aside0.mk (show Below w5.heap.size w5 wb from (below_drew (Below.refl w5.heap.size w5)).trans hb); have NB := Aside0.mk ((BB.out.block _ (blk_lt N5.out)).trans N5.out); clear hO hb q0 q1 q2 q3 q4 q5; obtain ⟨q0, q1, q2, q3, q4, q5⟩ := six_cells NB.out)
          | (refine goes_ Try.func16 (by kernel_rfl) rfl #[.pointer (some ⟨g, 0, none⟩), .int .i64 o2, .slice (some ⟨gY, 0, none⟩) (blockL o3 o4).length (blockL o3 o4).length] (by rfl) rfl rfl (by (try simp only [List.map_toArray, List.map_cons, List.map_nil]); first | done | rfl) ?_; refine (n_write D5.out BB.out (HVV.out w5 K5.out) o2 OB.out rfl (blockL_bytes _ _) (pl_le UP.out KM.out) WS.out).mono ?_; rintro e w6 ⟨rfl, hD, hf⟩; refine ⟨_, rfl, ?_⟩; have D6 := Aside0.mk hD; have K6 := Aside0.mk (hf.below (K5.out.trans (BB.out.mono K5.out.size)) (fun k q => q) (Nat.le_trans K5.out.size BB.out.size)); clear hD hf q0 q1 q2 q3 q4 q5))
        all_goals
          have DN := Aside0.mk (show Dk w6 g (playS (L.take (k + 1))) (fun k => w.heap.size ≤ k) from by rw [N2.out]; exact D6.out)
          clear NX NB OB BB D5 K5 N5 WS N2 D6
          go_wp2_with fail
          go_roundg (gk - 1)
          case measure => exact HM.out
          case rel => exact ⟨k + 1, by first | exact HV.out | rfl, HN, DN, K6⟩
      case neg =>
        have e1 : (o1 == 0) = false := by simpa using d0
        have hbn := (Below.refl wr.heap.size wr).alloc (Nat.le_refl _) (.cells #[.int .i64 o1, .int .i64 o2, .int .u8 o3, .int .i64 o4, .int .i64 o5, .slice Ap np cp] 29)
        have D5 := Aside0.mk (DD.out.below hbn)
        have K5 := Aside0.mk (KK.out.trans (hbn.mono KK.out.size))
        clear hbn DD KK
        by_cases d1 : o1 = 1
        case pos =>
          have e2 : (o1 == 1) = true := by simpa using d1
          obtain ⟨⟨r, s2⟩, hws⟩ : ∃ x, x = flushS s := ⟨_, rfl⟩
          have WS := Aside0.mk hws.symm
          have N2 := Aside0.mk (show playS (L.take (k + 1)) = s2 from by rw [NX.out]; unfold stepS; rw [if_neg d0, if_pos d1, ← hws])
          clear d0 d1 hws
          go_wp2_with fail
          refine (n_flush D5.out WS.out).mono ?_
          rintro e w6 ⟨rfl, hD, hf⟩
          have DN := Aside0.mk (show Dk w6 g (playS (L.take (k + 1))) (fun k => w.heap.size ≤ k) from by rw [N2.out]; exact hD)
          have K6 := Aside0.mk (hf.below K5.out (fun k q => q) K5.out.size)
          clear hD hf WS N2 q0 q1 q2 q3 q4 q5
          go_wp2_with fail
          go_roundg (gk - 1)
          case measure => exact HM.out
          case rel => exact ⟨k + 1, by first | exact HV.out | rfl, HN, DN, K6⟩
        case neg =>
          have e2 : (o1 == 1) = false := by simpa using d1
          have N2 := Aside0.mk (show playS (L.take (k + 1)) = s from by rw [NX.out]; unfold stepS; rw [if_neg d0, if_neg d1])
          have DN := Aside0.mk (show Dk _ g (playS (L.take (k + 1))) (fun k => w.heap.size ≤ k) from by rw [N2.out]; exact D5.out)
          clear d0 d1 N2
          go_wp2_with fail
          go_roundg (gk - 1)
          case measure => exact HM.out
          case rel => exact ⟨k + 1, by first | exact HV.out | rfl, HN, DN, K5⟩
    have hke : k = m := en_k HJ.out hlt
    have hge := (di_f hke).1
    have hge2 := (di_f hke).2
    have DE := Aside0.mk (show Dk wr g (playS (L.take 120)) (fun k => w.heap.size ≤ k) from by rw [← ML.out.2.2, ← hke]; exact DD.out)
    clear hlt hke DD HJ
    go_wp2_with fail
    go_ret
    exact ⟨_, rfl, DE.out, KK.out⟩
end Go.Proofs.Ythnadkdfgckijaa.Pure
