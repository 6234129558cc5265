/- What is pending, as one goes through it: walked. -/
import Derived.Test.YthnadkdfgckijaaDkG
namespace Go.Proofs.Ythnadkdfgckijaa.Pure
open Go.RowKit Go.Proofs.Ythnadkdfgckijaa Go.Proofs.Ythnadkdfgckijaa.PAll Go.Proofs.Ythnadkdfgckijaa.Mem Go.Proofs.YthnadkdfgckijaaW.PrintWords Go.Proofs.YthnadkdfgckijaaW.PrintLast Go.Proofs.YthnadkdfgckijaaW.PrintMore
set_option linter.unusedVariables false
set_option linter.unusedSimpArgs false

/-- A row of what is pending, in a box. -/
def PenAt (w : World) (gL : Nat) (ok : Nat → Prop) (P : List (Int × List Int)) : Prop := ∃ v, Boxed w gL 53 v ∧ Kd.R kW 101 w 0 ok v P
set_option maxRecDepth 100000 in
set_option maxHeartbeats 4000000 in
theorem pend_f {w : World} {g : Nat} {s : DS} {V : Nat → Prop} (h : Dk w g s V) (hP : s.P.length ≤ 1000000) :
    Calls Try.prog 61 #[.pointer (some ⟨g, 0, none⟩)] w fun e w' => ∃ gL, e = .returned (.func (.func 89) #[] #[.pointer (some ⟨gL, 0, none⟩)]) ∧ w.heap.size ≤ gL ∧ PenAt w' gL (fun k => (V k ∨ w.heap.size ≤ k) ∧ k ≠ gL) s.P ∧ Below w.heap.size w w' := by
  obtain ⟨U, ⟨lt, ug, pen, pos, A, Ak, c, ck, vP, FB, FW, FK, h1, h2, h3, h4, h5, h6, h7, h8⟩, h0⟩ := h
  have HB := Aside0.mk ((Below.refl w.heap.size w).alloc (Nat.le_refl _) (.cells #[.slice none 0 0] 53))
  have HR := Aside0.mk (Kd.R_below h3 (HB.out))
  have HX := Aside0.mk (heap_new w (.cells #[.slice none 0 0] 53))
  have hg1 := (HB.out.block _ (blk_lt h1)).trans h1
  have HF := Aside0.mk (show ∀ k, FW k → k < w.heap.size from fun k q => lt k (h7 k q).1)
  have HV := Aside0.mk (show ∀ k, FW k → V k from fun k q => h0 k (h7 k q).1)
  have HP := Aside0.mk hP
  obtain ⟨z0, z1, z2, z3, z4, z5⟩ := dk_cells hg1
  clear h1 h2 h3 h4 h5 h6 h7 h8 h0 lt ug pen pos z0 z2 z3 z4 z5 hP hg1
  go_enter Try.func61, Try.ntmps61
  go_wp2_with fail
  refine (clone_w HR.out (fun k q => by have := HF.out k q; simp; omega) HP.out).mono ?_
  rintro e w1 ⟨v', rfl, hR, hb⟩
  obtain ⟨A1, c1, rfl, _, _⟩ := R_own hR
  have RR := Aside0.mk hR
  have BB := Aside0.mk hb
  have X1 := Aside0.mk ((hb.block _ (blk_lt HX.out)).trans HX.out)
  have f1 := blk_frozen X1.out 0
  have cX : w1.cell? ⟨w.heap.size, 0, none⟩ = some (.slice none 0 0) := by rw [blk_cell X1.out]; rfl
  clear hR hb z1 HR
  go_wp2_with fail
  go_ret
  have hbx : Boxed (w1.setCell ⟨w.heap.size, 0, none⟩ (.slice A1 s.P.length c1)) w.heap.size 53 (.slice A1 s.P.length c1) := Boxed.set _ (show Boxed w1 _ 53 _ from X1.out)
  refine ⟨w.heap.size, rfl, Nat.le_refl _, ⟨_, hbx, ?_⟩, (HB.out.trans (BB.out.mono HB.out.size)).setCell (p := ⟨w.heap.size, 0, none⟩) (Nat.le_refl _) _⟩
  have hne : ∀ k, FW k ∨ (w.alloc (.cells #[.slice none 0 0] 53)).heap.size ≤ k → k ≠ w.heap.size := by
    rintro k (q | q) e
    · have := HF.out k q; omega
    · simp at q; omega
  refine Kd.R_mono (Kd.R_step RR.out (fun k hk hlt => Below.heap_setCell w1 _ _ k (hne k hk))) ?_
  intro k hk
  refine ⟨?_, hne k hk⟩
  rcases hk with q | q
  · exact .inl (HV.out k q)
  · right; simp at q; omega
/-- The values of a round: where the block of a write is to go, and a row of its own that holds it. -/
def penV (cI : Nat → Int) (cB : Nat → List Int) (k : Nat) (v : Array Value) (W0 W1 : World) : Prop :=
  ∃ Y yd, v = #[.int .i64 (cI k), .slice Y 256 yd] ∧ Kd.R (Kd.int .u8) 5 W1 0 (fun q => W0.heap.size ≤ q) (.slice Y 256 yd) (cB k) ∧ Below W0.heap.size W0 W1
theorem box_two (w : World) (a b : Value) : (w.alloc (.cells #[a, b] 101)).cell? ⟨w.heap.size, 0, none⟩ = some a ∧ (w.alloc (.cells #[a, b] 101)).cell? ⟨w.heap.size, 1, none⟩ = some b := two_cells (heap_new w _)
theorem meas89 {k N : Nat} {v : Value} (h : k < N) (hv : v = .int .i64 ((k + 1 : Nat) : Int)) : N - (intOf v).toNat < N - (intOf (.int .i64 (k : Int))).toNat := by
  subst hv
  simp [intOf]
  omega
theorem big_n {N : Nat} (h : N ≤ 1000000) : N ≤ 9223372036854775807 := by omega
set_option maxRecDepth 100000 in
set_option maxHeartbeats 16000000 in
theorem go89 (n : Nat) (hn : 1 ≤ n) (lo : Nat) (N cP : Nat) (AP : Option Addr) (cI : Nat → Int) (cA : Nat → Option Addr) (cC : Nat → Nat) (cB : Nat → List Int) (gL : Nat) (S : Nat → Prop) (J Jx : Nat → World → Prop) (w : World) (hN : N ≤ 1000000)
    (hb : Boxed w gL 53 (.slice AP N cP)) (hbS : ¬ S gL) (hC : ∀ x, x < N → ∃ ad, AP = some ad ∧ ad.block < w.heap.size ∧ ¬ S ad.block ∧ w.cell? (ad.add (x * 2)) = some (.int .i64 (cI x)) ∧ w.cell? ⟨(ad.add (x * 2)).block, (ad.add (x * 2)).off + 1, none⟩ = some (.slice (cA x) 256 (cC x)))
    (hR : ∀ x, x < N → 256 ≤ cC x ∧ (cB x).length = 256 ∧ ∀ W', Kept w W' S → Kd.C (Kd.int .u8) W' (cA x) (cB x).length (cB x))
    (hY : ∀ k v W0 W1, k < N → J k W0 → penV cI cB k v W0 W1 → YieldAt Fence.wide (n - 1) Try.prog lo v W1 fun e W' => ∃ b, e = .returned (.bool b) ∧ ((b = true ∧ J (k + 1) W' ∧ Kept W0 W' S) ∨ (b = false ∧ Jx (k + 1) W')))
    (W : World) (hW : Kept w W S) (hJ0 : J 0 W) :
    CallsIn Fence.wide n Try.prog 89 #[.func (.yield lo) #[] #[], .pointer (some ⟨gL, 0, none⟩)] W fun e W' => (∃ v, e = .returned v) ∧ (J N W' ∨ ∃ k, k ≤ N ∧ Jx k W') := by
  have HY := Aside0.mk hY
  have BX := Aside0.mk (show ∀ W', Kept w W' S → W'.cell? ⟨gL, 0, none⟩ = some (.slice AP N cP) from fun W' hk => (show Boxed W' gL 53 _ from (hk.2 gL hb.lt hbS).trans hb).cell)
  have RX := Aside0.mk (show ∀ W', Kept w W' S → ∀ x (h : x < N), ∃ ad, AP = some ad ∧ W'.cell? (ad.add (x * 2)) = some (.int .i64 (cI x)) ∧ W'.cell? ⟨(ad.add (x * 2)).block, (ad.add (x * 2)).off + 1, none⟩ = some (.slice (cA x) 256 (cC x)) from fun W' hk x h => by
    obtain ⟨ad, h1, h2, h3, h4, h5⟩ := hC x h
    have hbk := hk.2 ad.block h2 h3
    refine ⟨ad, h1, (World.cell?_of_block (by rw [add_block]; exact hbk)).trans h4, (World.cell?_of_block (by show W'.heap[(ad.add (x * 2)).block]? = _; rw [add_block]; exact hbk)).trans h5⟩)
  have b1 := BX.out W hW
  have HW := Aside0.mk hW
  have HJ0 := Aside0.mk hJ0
  have NN := Aside0.mk hN
  have HR := Aside0.mk hR
  clear hY hb hbS hC hW hJ0 hN hR
  refine callsIn_of_wp Try.func89 rfl trivial ?_ rfl
  simp only [Try.ntmps89, List.size_toArray, List.length_cons, List.length_nil, Nat.reduceAdd, Nat.reduceSub, Array.replicate_succ, Array.replicate_zero, List.push_toArray, List.append_toArray, List.nil_append, List.cons_append]
  gi_wp2_with fail
  clear b1
  gi_loopw [7] (fun v wr => ∃ k : Nat, v = .int .i64 (k : Int) ∧ Aside0 (k ≤ N) ∧ Aside0 (Kept w wr S) ∧ Aside0 (J k wr)) (fun v _ => N - (intOf v).toNat)
  case atStart => exact ⟨0, rfl, ⟨Nat.zero_le _⟩, HW, HJ0⟩
  case round =>
    obtain ⟨k, rfl, HZ, HK, HJ⟩ := hrel
    by_cases hlt : k < N
    · obtain ⟨hgd, hgd2⟩ := di_t hlt
      obtain ⟨ad, hAP, q0, q1⟩ := RX.out wr HK.out k hlt
      obtain ⟨r1, r2, r3⟩ := HR.out k hlt
      subst hAP
      have HL := Aside0.mk hlt
      have R1 := Aside0.mk r1
      have R2 := Aside0.mk r2
      have BN := Aside0.mk ((Below.refl wr.heap.size wr).alloc (Nat.le_refl _) (.cells #[.int .i64 (cI k), .slice (cA k) 256 (cC k)] 101))
      have RC := Aside0.mk (Kd.C_drew (r3 _ (HK.out.then_ (Kept.of_below BN.out S) (fun _ h => .inl h))))
      obtain ⟨x0, x1⟩ := box_two wr (.int .i64 (cI k)) (.slice (cA k) 256 (cC k))
      have hst := stepv hlt (big_n NN.out)
      clear r1 r2 r3
      gi_wp2_with fail
      refine wpIn_np ?_
      gi_region_with (first | (refine ⟨trivial, ?_⟩; gi_at_call 55; refine ((callsIn_wide).2 (clone_r RC.out R2.out R1.out (by decide))).mono ?_; rintro e W1 ⟨Y, yd, rfl, hd, hO, hb1⟩; obtain ⟨fn, tmps, assign, body, hy, hR2⟩ := HY.out k _ wr W1 HL.out HJ.out ⟨Y, yd, rfl, Kd.R_mono hO (fun q hq => Nat.le_trans BN.out.drew.size hq.1), BN.out.drew.trans (hb1.mono BN.out.drew.size)⟩; have HRO := Aside0.mk hR2; have y0 := pw_cell_below hb1 x0; have y1 := pw_cell_below hb1 x1; clear hO hb1 hR2 x0 x1 hd) | (refine HRO.out.mono ?_; rintro e W3 ⟨b, rfl, h3⟩; have H3 := Aside0.mk h3; clear h3 hy y0 y1))
      all_goals (show Exit.then _ _ _ _ _)
      all_goals
        rcases H3.out with ⟨rfl, hJ3, hK3⟩ | ⟨rfl, hX3⟩
        · have HJ3 := Aside0.mk hJ3
          have HK3 := Aside0.mk (HK.out.then_ hK3 (fun _ h => .inl h))
          clear hJ3 hK3 H3 HRO q0 q1
          gi_wp2_with fail
          go_roundw
          case rel => exact ⟨k + 1, (by first | exact hst | rfl), HL, HK3, HJ3⟩
          case measure => exact meas89 HL.out hst
        · have HX3 := Aside0.mk hX3
          clear hX3 H3 HRO q0 q1
          gi_wp2_with fail
          refine bodyPost_ret (results_none rfl _ _ _) rfl ?_
          exact ⟨⟨_, rfl⟩, .inr ⟨k + 1, HL.out, HX3.out⟩⟩
    · obtain rfl : k = N := Nat.le_antisymm HZ.out (Nat.not_lt.1 hlt)
      obtain ⟨hgd, hgd2⟩ := di_f (rfl : k = k)
      clear hlt
      gi_wp2_with fail
      go_end0
      exact ⟨⟨_, rfl⟩, .inl HJ.out⟩
end Go.Proofs.Ythnadkdfgckijaa.Pure
