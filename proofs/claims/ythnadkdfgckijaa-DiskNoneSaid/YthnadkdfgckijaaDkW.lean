/- A block is written into the cache: walked. -/
import Derived.Test.YthnadkdfgckijaaDkE
namespace Go.Proofs.Ythnadkdfgckijaa.Pure
open Go.RowKit Go.Proofs.Ythnadkdfgckijaa Go.Proofs.Ythnadkdfgckijaa.PAll Go.Proofs.Ythnadkdfgckijaa.Mem Go.Proofs.YthnadkdfgckijaaW.PrintWords Go.Proofs.YthnadkdfgckijaaW.PrintLast Go.Proofs.YthnadkdfgckijaaW.PrintMore
set_option linter.unusedVariables false
set_option linter.unusedSimpArgs false
set_option linter.unusedSectionVars false

theorem info101 : (Try.prog.info? 101).map (fun i => (i.zero, i.size, i.bytes)) = some (some (.agg #[.int .i64 0, .slice none 0 0]), kW.sz, 32) := by kernel_rfl
theorem clone_r {w : World} {A : Option Addr} {c n : Nat} {l : List Int} (hC : Kd.C (Kd.int .u8) w A l.length l) (hn : l.length = n) (hc : n ≤ c) (hl : n ≤ 140737488351232) :
    Calls Try.prog 55 #[.slice A n c] w fun e w' => ∃ Y d, e = .returned (.slice Y n d) ∧ n ≤ d ∧ Kd.R (Kd.int .u8) 5 w' 0 (fun k => w.heap.size ≤ k ∧ k < w'.heap.size) (.slice Y n d) l ∧ Below w.heap.size w w' := by
  subst hn
  refine (bytes_Clone.calls A c l l w hC hc (by unfold bytes_Clone.f; rw [if_pos (by omega)])).mono ?_
  rintro e w' ⟨v, rfl, ho, hb⟩
  obtain ⟨Y, d, rfl, hd, hF⟩ := R_own ho
  exact ⟨Y, d, rfl, hd, Kd.R_lower (Kd.R_mono (Kd.R_bound ho) (fun k hk => ⟨hk.2.1, hk.2.2.1⟩)) (Nat.zero_le _), hb⟩
theorem below0 (w : World) : Below 0 w w := (Below.refl w.heap.size w).mono (Nat.zero_le _)
theorem placeS_ok {s : DS} {i : Int} (h : placeS s i = 0) : s.off = false ∧ 0 ≤ i ∧ i < (s.B.length : Int) := by
  unfold placeS at h
  by_cases ho : s.off = true
  · rw [if_pos ho] at h; cases h
  · rw [if_neg ho] at h
    by_cases hi : i < 0 ∨ i ≥ (s.B.length : Int)
    · rw [if_pos hi] at h; cases h
    · exact ⟨by simpa using ho, by omega, by omega⟩
section
variable {w : World} {g : Nat} {U UX : Nat → Prop} {s : DS} {Ax : Option Addr} {cx : Nat} {b : List Int}
set_option maxRecDepth 100000 in
theorem write1 (h : DK w g U s) (i r : Int) (n : Nat) (hr : placeS s i = r) (h0 : r ≠ 0) : Calls Try.prog 16 #[.pointer (some ⟨g, 0, none⟩), .int .i64 i, .slice Ax n cx] w fun ex w' => ex = .returned (.int .i64 r) ∧ Below w.heap.size w w' := by
  have D0 := Aside0.mk h
  have HR := Aside0.mk hr
  have e1 : (r == 0) = false := by simpa using h0
  have e2 : (r != 0) = true := by simpa using h0
  clear h hr h0
  go_enter Try.func16, Try.ntmps16
  go_wp2_with fail
  refine (dk_place D0.out i).mono ?_
  rintro ex w1 ⟨rfl, hb⟩
  rw [HR.out]
  have K1 := Aside0.mk hb
  clear hb
  go_wp2_with fail
  go_ret
  exact ⟨rfl, K1.out⟩
set_option maxRecDepth 100000 in
theorem write2 (h : DK w g U s) (i : Int) (n : Nat) (hr : placeS s i = 0) (hn : n ≠ 256) : Calls Try.prog 16 #[.pointer (some ⟨g, 0, none⟩), .int .i64 i, .slice Ax n cx] w fun ex w' => ex = .returned (.int .i64 31) ∧ Below w.heap.size w w' := by
  have D0 := Aside0.mk h
  have HR := Aside0.mk hr
  have e1 : ((n : Int) == 256) = false := by simp; omega
  have e2 : ((n : Int) != 256) = true := by simp; omega
  have e3 : (n == 256) = false := by simpa using hn
  have e4 : (n != 256) = true := by simpa using hn
  clear h hr hn
  go_enter Try.func16, Try.ntmps16
  go_wp2_with fail
  refine (dk_place D0.out i).mono ?_
  rintro ex w1 ⟨rfl, hb⟩
  rw [HR.out]
  have K1 := Aside0.mk hb
  clear hb
  go_wp2_with fail
  go_ret
  exact ⟨rfl, K1.out⟩
theorem pen_make2 {w : World} {base : Nat} {ok : Nat → Prop} {i : Int} {v : Value} {b : List Int} (h : Kd.R (Kd.int .u8) 5 w base ok v b) : kW.M w base ok (i, b) [.int .i64 i, v] :=
  ⟨[.int .i64 i], [v], rfl, rfl, _, rfl, h⟩
/-- What is known behind the append. -/
theorem wrote_dk {w1 wn w3 : World} {g : Nat} {U : Nat → Prop} {s : DS} {A Ak : Option Addr} {c ck : Nat} {vP v3 : Value} {FB FW FK : Nat → Prop} {x : Int × List Int} (lt : ∀ k, U k → k < w1.heap.size) (ug : U g) (pen : PenOk s.B.length s.P) (pos : 0 < s.B.length)
    (h1 : w1.heap[g]? = some (.cells (dkCs A s.B.length c vP (.bool s.off) (.int .i64 s.ops) (.int .i64 s.armed) (.slice Ak s.picks.length ck)) 55 (0, 0))) (h2 : RowsAt w1 A c FB s.B) (hP0 : ∀ k, vP.ownBlock = some k → FW k) (h4 : Kd.F (Kd.int .u8) w1 FK Ak s.picks.length s.picks) (h5 : s.picks.length ≤ ck)
    (h6 : ∀ k, FB k → U k ∧ k ≠ g) (h7 : ∀ k, FW k → U k ∧ k ≠ g ∧ ¬ FB k) (h8 : ∀ k, FK k → U k ∧ k ≠ g ∧ ¬ FB k ∧ ¬ FW k) (hbn : Below w1.heap.size w1 wn) (hg3 : wn.grownBy w3 vP.ownBlock) (hx : 0 ≤ x.1 ∧ x.1 < (s.B.length : Int) ∧ x.2.length = 256 ∧ Bytes x.2)
    (hR3 : Kd.R kW 101 w3 0 (fun k => FW k ∨ w1.heap.size ≤ k) v3 (s.P ++ [x])) :
    w3.heap[g]? = some (.cells (dkCs A s.B.length c vP (.bool s.off) (.int .i64 s.ops) (.int .i64 s.armed) (.slice Ak s.picks.length ck)) 55 (0, 0)) ∧ Fr U w1 (w3.setCell ⟨g, 1, none⟩ v3) ∧ DK (w3.setCell ⟨g, 1, none⟩ v3) g (fun k => U k ∨ w1.heap.size ≤ k ∧ k < w3.heap.size) { s with P := s.P ++ [x] } := by
  have f3 : Fr FW w1 w3 := ⟨hg3.os.trans hbn.os, hg3.tape.trans hbn.tape, hg3.output.trans hbn.output, Nat.le_trans hbn.size hg3.size, fun k hk hn => (hg3.block k (Nat.lt_of_lt_of_le hk hbn.size) (fun e => hn (hP0 k e.symm))).trans (hbn.block k hk)⟩
  have g3 := fr_blk f3 h1 (fun q => (h7 _ q).2.1 rfl)
  have t := Fr.set (p := ⟨g, 1, none⟩) (Fr.refl (· = g) w3) rfl v3
  have hs : (w3.setCell ⟨g, 1, none⟩ v3).heap.size = w3.heap.size := by simp [World.setCell]
  have f4 : Fr U w1 (w3.setCell ⟨g, 1, none⟩ v3) := Fr.set (p := ⟨g, 1, none⟩) (f3.mono (fun k q => (h7 k q).1)) ug v3
  refine ⟨g3, f4, ⟨fun k hk => ?_, .inl ug, fun y hy => ?_, pos, A, Ak, c, ck, v3, FB, fun k => (FW k ∨ w1.heap.size ≤ k) ∧ k < w3.heap.size, FK, ?_, (h2.fr f3 (fun k q z => (h7 k z).2.2 q)).fr t (fun k q e => (h6 k q).2 e), ?_, F_fr (F_fr h4 f3 (fun k q => (h8 k q).2.2.2)) t (fun k q => (h8 k q).2.1), h5, fun k q => ⟨.inl (h6 k q).1, (h6 k q).2⟩, fun k q => ?_, fun k q => ⟨.inl (h8 k q).1, (h8 k q).2.1, (h8 k q).2.2.1, fun z => ?_⟩⟩⟩
  · rw [hs]
    rcases hk with q | q
    · exact Nat.lt_of_lt_of_le (lt k q) f3.size
    · exact q.2
  · rcases List.mem_append.1 hy with q | q
    · exact pen y q
    · rw [List.mem_singleton] at q
      rw [q]
      exact hx
  · rw [blk_set g3 1 _]
    simp
  · refine Kd.R_step (Kd.R_mono (Kd.R_bound hR3) (fun k q => ⟨q.1, q.2.2.1⟩)) (fun k q hlt => t.block k hlt (fun e => ?_))
    rcases q.1 with z | z
    · exact (h7 k z).2.1 e
    · have := blk_lt h1
      omega
  · rcases q.1 with z | z
    · exact ⟨.inl (h7 k z).1, (h7 k z).2⟩
    · refine ⟨.inr ⟨z, q.2⟩, ?_, fun y => ?_⟩
      · have := blk_lt h1
        omega
      · have := lt k (h6 k y).1
        omega
  · rcases z.1 with y | y
    · exact (h8 k q).2.2.2 y
    · have := lt k (h8 k q).1
      omega
set_option maxRecDepth 100000 in
set_option maxHeartbeats 16000000 in
theorem write3 (h : DK w g U s) (i r : Int) (hr : placeS s i = 0) (hb : b.length = 256) (hby : Bytes b) (hX : Kd.F (Kd.int .u8) w UX Ax 256 b) (hcx : 256 ≤ cx) (hUX : ∀ k, UX k → ¬ U k) (hPl : s.P.length ≤ 1000000) (s2 : DS) (hs2 : s2 = (goesS { s with P := s.P ++ [(i, b)] }).2) (hr2 : r = if (goesS { s with P := s.P ++ [(i, b)] }).1 = true then 5 else 0) :
    Calls Try.prog 16 #[.pointer (some ⟨g, 0, none⟩), .int .i64 i, .slice Ax 256 cx] w fun ex w' => ex = .returned (.int .i64 r) ∧ Does w w' g U s2 := by
  have D0 := Aside0.mk h
  have HR := Aside0.mk hr
  have XF := Aside0.mk hX
  have HB := Aside0.mk (And.intro hb (And.intro hby hcx))
  have UXA := Aside0.mk hUX
  have PL := Aside0.mk hPl
  have S2 := Aside0.mk hs2
  have R2 := Aside0.mk hr2
  clear h hr hX hb hby hcx hUX hPl hs2 hr2
  go_enter Try.func16, Try.ntmps16
  go_wp2_with fail
  refine (dk_place D0.out i).mono ?_
  rintro ex w1 ⟨rfl, hb⟩
  rw [HR.out]
  have F1 := Aside0.mk (Fr.of_below (F := U) hb)
  have D1 := Aside0.mk (D0.out.below hb)
  have X1 := Aside0.mk (Kd.F_below XF.out hb)
  have S1 := Aside0.mk hb.size
  clear hb D0 XF
  go_upto_region 6 with fail
  obtain ⟨lt, ug, pen, pos, A, Ak, c, ck, vP, FB, FW, FK, h1, h2, h3, h4, h5, h6, h7, h8⟩ := D1.out
  obtain ⟨AP, cP, hvP, hcP, hPF⟩ := R_own h3
  subst hvP
  have hd : Below w1.heap.size w1 w1.drew := below_drew (Below.refl _ _)
  have G2 := Aside0.mk (show w1.drew.heap[g]? = _ from h1)
  have X2 := Aside0.mk (Kd.F_below X1.out hd)
  have P2 := Aside0.mk (Kd.R_step (w1 := w1.drew) h3 (fun _ _ _ => rfl))
  have REST := Aside0.mk (And.intro lt (And.intro ug (And.intro pen (And.intro pos (And.intro h2 (And.intro h4 (And.intro h5 (And.intro h6 (And.intro h7 h8)))))))))
  have y1 := blk_frozen G2.out 1
  obtain ⟨z0, z1, z2, z3, z4, z5⟩ := dk_cells h1
  obtain ⟨q0, q1, q2, q3, q4, q5⟩ := dk_cells G2.out
  clear lt ug pen pos h1 h2 h3 h4 h5 h6 h7 h8 hPF hd
  have XC := Aside0.mk (show Kd.C (Kd.int .u8) w1.drew Ax b.length b from by rw [HB.out.1]; exact Kd.F_now X2.out)
  have FWl := Aside0.mk (show ∀ k, FW k → k < w1.heap.size from fun k q => REST.out.1 k (REST.out.2.2.2.2.2.2.2.2.1 k q).1)
  have IB := Aside0.mk (placeS_ok HR.out)
  go_region_law (first
    | (refine goes_ Try.func55 (by kernel_rfl) rfl #[.slice Ax 256 cx] (by rfl) rfl rfl (by (try simp only [List.map_toArray, List.map_cons, List.map_nil]); first | done | rfl) ?_; refine (clone_r XC.out HB.out.1 HB.out.2.2 (by decide)).mono ?_; rintro e wn ⟨Y, yd, rfl, hyd, hYR, hbn⟩; refine ⟨_, rfl, ?_⟩; have BN := Aside0.mk (show Below w1.heap.size w1 wn from (below_drew (Below.refl w1.heap.size w1)).trans hbn); have YR := Aside0.mk hYR; have GN := Aside0.mk ((hbn.block _ (blk_lt G2.out)).trans G2.out); have PN := Aside0.mk (Kd.R_step P2.out (w1 := wn) (fun k _ hlt => hbn.block k hlt)); have e1 : (wn.alloc (.cells #[.int .i64 i, .slice Y 256 yd] 101)).cell? ⟨g, 1, none⟩ = some (.slice AP s.P.length cP) := (dk_cells (((Below.refl wn.heap.size wn).alloc (Nat.le_refl _) (.cells #[.int .i64 i, .slice Y 256 yd] 101)).block _ (blk_lt GN.out) |>.trans GN.out)).2.1; clear hbn hYR q0 q1 q2 q3 q4 q5 XC; obtain ⟨q0, q1, q2, q3, q4, q5⟩ := dk_cells GN.out)
    | (refine Kd.R_append_step kW (w0 := wn) 0 (by rfl) (.tmp 21) (.tmp 26) 53 101 (.agg #[.int .i64 0, .slice none 0 0]) 32 rfl Try.underlying53 info101 rfl (by decide) (by decide) (.slice AP s.P.length cP) s.P (i, b) [.int .i64 i, .slice Y 256 yd] (fun k => FW k ∨ w1.heap.size ≤ k) (fun k => w1.heap.size ≤ k ∧ k < wn.heap.size) rfl rfl (pen_make2 YR.out) (fun k q => ⟨.inr q.1, fun e => Nat.lt_irrefl _ (Nat.lt_of_lt_of_le (FWl.out _ (P2.out.1 k e.symm)) q.1)⟩) (fun k q => .inr (Nat.le_trans BN.out.size q)) (Kd.R_mono PN.out (fun k q => .inl q)) (below0 wn) (Nat.zero_le _) (by have := PL.out; omega) ?_; intro v3 w3 hR3 hb3 hg3 hat3; obtain ⟨A3, c3, hv3, hc3, hF3⟩ := R_own hR3; subst hv3; clear hc3 hF3; have WD := Aside0.mk (wrote_dk (x := (i, b)) REST.out.1 REST.out.2.1 REST.out.2.2.1 REST.out.2.2.2.1 G2.out REST.out.2.2.2.2.1 P2.out.1 REST.out.2.2.2.2.2.1 REST.out.2.2.2.2.2.2.1 REST.out.2.2.2.2.2.2.2.1 REST.out.2.2.2.2.2.2.2.2.1 REST.out.2.2.2.2.2.2.2.2.2 BN.out hg3 ⟨IB.out.2.1, IB.out.2.2, HB.out.1, HB.out.2.1⟩ hR3); have y1 := blk_frozen WD.out.1 1; clear hR3 hb3 hg3 hat3 e1 q0 q1 q2 q3 q4 q5; obtain ⟨q0, q1, q2, q3, q4, q5⟩ := dk_cells WD.out.1))
  all_goals
    have WE := WD.out.2
    rw [show (s.P ++ [(i, b)]).length = s.P.length + 1 by simp] at WE
    obtain ⟨w4, hw4⟩ : ∃ x, x = w3.setCell ⟨g, 1, none⟩ (.slice A3 (s.P.length + 1) c3) := ⟨_, rfl⟩
    rw [← hw4] at WE ⊢
    have F4 := Aside0.mk WE.1
    have D4 := Aside0.mk WE.2
    have hgo := dk_goes D4.out
    obtain ⟨⟨bb, s3⟩, hgs⟩ : ∃ x, x = goesS { s with P := s.P ++ [(i, b)] } := ⟨_, rfl⟩
    have e2 := S2.out
    have e3 := R2.out
    rw [← hgs] at e2 e3 hgo
    simp only at e2 e3 hgo
    have QG := Aside0.mk hgo
    have EE := Aside0.mk (And.intro e2 e3)
    clear WE hw4 hgs e2 e3 hgo WD q0 q1 q2 q3 q4 q5 z0 z1 z2 z3 z4 z5 y1
    go_wp2_with fail
    refine QG.out.mono ?_
    rintro ex w5 ⟨rfl, hD, hf⟩
    have DF := Aside0.mk (show Does w w5 g U s3 from ⟨(F1.out.then_ F4.out).trans hf (fun k q => q.elim .inl (fun z => .inr (Nat.le_trans S1.out z.1))), _, hD, fun k q => q.elim .inl (fun z => .inr (Nat.le_trans S1.out z.1))⟩)
    obtain ⟨e2, e3⟩ := EE.out
    clear hD hf QG EE D4 F4
    subst e2
    cases bb
    · rw [if_neg (by decide)] at e3
      subst e3
      go_wp2_with fail
      go_ret
      exact ⟨rfl, DF.out⟩
    · rw [if_pos rfl] at e3
      subst e3
      go_wp2_with fail
      go_ret
      exact ⟨rfl, DF.out⟩
end
theorem dk_write {w : World} {g : Nat} {U UX : Nat → Prop} {s : DS} {Ax : Option Addr} {cx n : Nat} {b : List Int} (h : DK w g U s) (i : Int) (hn : b.length = n) (hby : Bytes b) (hX : Kd.F (Kd.int .u8) w UX Ax n b) (hcx : n ≤ cx) (hUX : ∀ k, UX k → ¬ U k) (hPl : s.P.length ≤ 1000000) :
    Calls Try.prog 16 #[.pointer (some ⟨g, 0, none⟩), .int .i64 i, .slice Ax n cx] w fun ex w' => ex = .returned (.int .i64 (writeS s i b).1) ∧ Does w w' g U (writeS s i b).2 := by
  unfold writeS
  by_cases hp : placeS s i = 0
  · rw [if_neg (by simpa using hp)]
    by_cases hl : b.length = 256
    · rw [if_neg (by simpa using hl)]
      rw [hl] at hn
      subst hn
      exact write3 h i _ hp hl hby hX hcx hUX hPl _ rfl rfl
    · rw [if_pos hl]
      refine (write2 h i n hp (by omega)).mono ?_
      rintro ex w' ⟨rfl, hb⟩
      exact ⟨rfl, Does.same h hb⟩
  · rw [if_pos hp]
    refine (write1 h i _ n rfl hp).mono ?_
    rintro ex w' ⟨rfl, hb⟩
    exact ⟨rfl, Does.same h hb⟩
end Go.Proofs.Ythnadkdfgckijaa.Pure
