/- Which super counts, by the code: its walk. -/
import Derived.Test.YtojolpamgijcbaaChGo
namespace Go.Proofs.Ytojolpamgijcbaa.Pure
open Go.RowKit Go.Proofs.Ytojolpamgijcbaa Go.Proofs.Ytojolpamgijcbaa.PAll Go.Proofs.Ytojolpamgijcbaa.PGt Go.Proofs.Ytojolpamgijcbaa.Mem Go.Proofs.YtojolpamgijcbaaW.PrintWords Go.Proofs.YtojolpamgijcbaaW.PrintLast Go.Proofs.YtojolpamgijcbaaW.PrintMore
set_option linter.unusedVariables false
set_option linter.unusedSimpArgs false

theorem two_new2 (w : World) (o p q : Obj) : (((w.alloc o).alloc p).alloc q).heap[w.heap.size]? = some o ∧ (((w.alloc o).alloc p).alloc q).heap[w.heap.size + 1]? = some p ∧ (((w.alloc o).alloc p).alloc q).heap[w.heap.size + 1 + 1]? = some q := by
  have h3 := heap_new ((w.alloc o).alloc p) q
  have h2 := heap_new (w.alloc o) p
  rw [World.size_alloc] at h2 h3
  rw [World.size_alloc] at h3
  exact ⟨(Below.heap_alloc _ q w.heap.size (by simp; omega)).trans ((Below.heap_alloc _ p w.heap.size (by simp)).trans (heap_new w o)), (Below.heap_alloc _ q _ (by simp)).trans h2, h3⟩
theorem six_set {w W : World} {a0 a1 a2 a3 a4 a5 : Value} {t : TypeId} {o : Obj} (hT : W.heap[w.heap.size + 1]? = some (.cells #[a0, a1, a2, a3, a4, a5] t (0, 0))) (hG : W.heap[w.heap.size]? = some o) (hK : Below w.heap.size w W) (v0 v1 v2 v3 v4 v5 : Value) :
    ((((((W.setCell ⟨w.heap.size + 1, 0, none⟩ v0).setCell ⟨w.heap.size + 1, 1, none⟩ v1).setCell ⟨w.heap.size + 1, 2, none⟩ v2).setCell ⟨w.heap.size + 1, 3, none⟩ v3).setCell ⟨w.heap.size + 1, 4, none⟩ v4).setCell ⟨w.heap.size + 1, 5, none⟩ v5).heap[w.heap.size + 1]? = some (.cells #[v0, v1, v2, v3, v4, v5] t (0, 0)) ∧
    ((((((W.setCell ⟨w.heap.size + 1, 0, none⟩ v0).setCell ⟨w.heap.size + 1, 1, none⟩ v1).setCell ⟨w.heap.size + 1, 2, none⟩ v2).setCell ⟨w.heap.size + 1, 3, none⟩ v3).setCell ⟨w.heap.size + 1, 4, none⟩ v4).setCell ⟨w.heap.size + 1, 5, none⟩ v5).heap[w.heap.size]? = some o ∧
    Below w.heap.size w ((((((W.setCell ⟨w.heap.size + 1, 0, none⟩ v0).setCell ⟨w.heap.size + 1, 1, none⟩ v1).setCell ⟨w.heap.size + 1, 2, none⟩ v2).setCell ⟨w.heap.size + 1, 3, none⟩ v3).setCell ⟨w.heap.size + 1, 4, none⟩ v4).setCell ⟨w.heap.size + 1, 5, none⟩ v5) := six_rel hT hK (Nat.lt_succ_self _) hG v0 v1 v2 v3 v4 v5
theorem six_far (W : World) (g : Nat) {D : Nat} (h : D ≠ g) (v0 v1 v2 v3 v4 v5 : Value) :
    ((((((W.setCell ⟨g, 0, none⟩ v0).setCell ⟨g, 1, none⟩ v1).setCell ⟨g, 2, none⟩ v2).setCell ⟨g, 3, none⟩ v3).setCell ⟨g, 4, none⟩ v4).setCell ⟨g, 5, none⟩ v5).heap[D]? = W.heap[D]? := by
  rw [Below.heap_setCell _ _ _ _ h, Below.heap_setCell _ _ _ _ h, Below.heap_setCell _ _ _ _ h, Below.heap_setCell _ _ _ _ h, Below.heap_setCell _ _ _ _ h, Below.heap_setCell _ _ _ _ h]
theorem hgo_of {A : World} {D : Nat} (h : A.heap[D]? = some (.deferred (some []))) : ∀ r, some D = some r → D ≤ r ∧ ∃ o : Obj, A.heap[r]? = some o ∧ o.isCells = false := fun r e => by
  cases e
  exact ⟨Nat.le_refl _, _, h, rfl⟩
theorem six_keeps {W0 : World} (W : World) (g : Nat) (v0 v1 v2 v3 v4 v5 : Value) {S : Nat → Prop} (hk : Kept W0 W S) (hS : S g) :
    KeepsOthers W ((((((W.setCell ⟨g, 0, none⟩ v0).setCell ⟨g, 1, none⟩ v1).setCell ⟨g, 2, none⟩ v2).setCell ⟨g, 3, none⟩ v3).setCell ⟨g, 4, none⟩ v4).setCell ⟨g, 5, none⟩ v5) ∧
    Kept W0 ((((((W.setCell ⟨g, 0, none⟩ v0).setCell ⟨g, 1, none⟩ v1).setCell ⟨g, 2, none⟩ v2).setCell ⟨g, 3, none⟩ v3).setCell ⟨g, 4, none⟩ v4).setCell ⟨g, 5, none⟩ v5) S :=
  ⟨(((((KeepsOthers.setCell _ _ _).trans (KeepsOthers.setCell _ _ _)).trans (KeepsOthers.setCell _ _ _)).trans (KeepsOthers.setCell _ _ _)).trans (KeepsOthers.setCell _ _ _)).trans (KeepsOthers.setCell _ _ _),
   (((((hk.setCell (p := ⟨g, 0, none⟩) (.inl hS) v0).setCell (p := ⟨g, 1, none⟩) (.inl hS) v1).setCell (p := ⟨g, 2, none⟩) (.inl hS) v2).setCell (p := ⟨g, 3, none⟩) (.inl hS) v3).setCell (p := ⟨g, 4, none⟩) (.inl hS) v4).setCell (p := ⟨g, 5, none⟩) (.inl hS) v5⟩
/-- What the range holds. -/
def CI (w : World) (y z : S6) (ey ez : Int) (pre : List Nat) (W : World) : Prop :=
  W.heap[w.heap.size]? = some (.cells (supCs 0 0 0 0 0 0) 25 (0, 0)) ∧ W.heap[w.heap.size + 1]? = some (.cells (bst y z ey ez pre).cs 25 (0, 0)) ∧ Below w.heap.size w W
attribute [local go_sem high] eqA25
set_option maxRecDepth 100000 in
set_option maxHeartbeats 16000000 in
theorem choose_c {w : World} {A B : Option Addr} {ca cb : Nat} {la lb : List Int} (hA : Kd.C (Kd.int .u8) w A la.length la) (hca : la.length ≤ ca) (hB : Kd.C (Kd.int .u8) w B lb.length lb) (hcb : lb.length ≤ cb)
    {y z : S6} {ey ez : Int} (hra : Reads2 la y.v0 y.v1 y.v2 y.v3 y.v4 y.v5 ey) (hrb : Reads2 lb z.v0 z.v1 z.v2 z.v3 z.v4 z.v5 ez) {r : S6} {er : Int} (hr : bst y z ey ez [0, 1] = r) (hz : (r = ⟨0, 0, 0, 0, 0, 0⟩ ∧ er = 50) ∨ (r.v0 ≠ 0 ∧ er = 0)) :
    Calls Try.prog 23 #[.slice A la.length ca, .slice B lb.length cb] w fun e w' => e = .returned (.tuple #[.agg r.cs, .int .i64 er]) ∧ Below w.heap.size w w' := by
  have hu25 := Try.underlying25
  have hu23 := Try.underlying23
  have RA := Aside0.mk hra
  have RB := Aside0.mk hrb
  have A0 := Aside0.mk hA
  have B0 := Aside0.mk hB
  have HR := Aside0.mk hr
  have HZ := Aside0.mk hz
  obtain ⟨n1, n2, n3⟩ := two_new2 w (.cells (supCs 0 0 0 0 0 0) 25) (.cells (supCs 0 0 0 0 0 0) 25) (.cells #[.slice A la.length ca, .slice B lb.length cb] 34)
  have N1 := Aside0.mk n1
  have N2 := Aside0.mk n2
  have N3 := Aside0.mk n3
  have K0 := Aside0.mk ((((Below.refl w.heap.size w).alloc (Nat.le_refl _) (.cells (supCs 0 0 0 0 0 0) 25)).alloc (by simp) (.cells (supCs 0 0 0 0 0 0) 25)).alloc (by simp; omega) (.cells #[.slice A la.length ca, .slice B lb.length cb] 34))
  clear hra hrb hA hB hr hz n1 n2 n3
  refine (callsIn_wide (n := 4)).1 ?_
  refine callsIn_of_wp_marks Try.func23 rfl trivial ?_ rfl
  simp only [Try.ntmps23, List.size_toArray, List.length_cons, List.length_nil, Nat.reduceAdd, Nat.reduceSub, Array.replicate_succ, Array.replicate_zero, List.push_toArray, List.append_toArray, List.nil_append, List.cons_append]
  gi_wp2_with fail
  refine ⟨trivial, ((callsIn_wide (n := 4 - 1)).2 (all_c _ _)).mono ?_⟩
  rintro e w1 ⟨gb, rfl, hbx, hgb, hb⟩
  have hsz : (((w.alloc (.cells (supCs 0 0 0 0 0 0) 25)).alloc (.cells (supCs 0 0 0 0 0 0) 25)).alloc (.cells #[.slice A la.length ca, .slice B lb.length cb] 34)).heap.size = w.heap.size + 3 := by simp
  have B1 := Aside0.mk hbx
  have G1 := Aside0.mk ((hb.block _ (blk_lt N1.out)).trans N1.out)
  have G2 := Aside0.mk ((hb.block _ (blk_lt N2.out)).trans N2.out)
  have G3 := Aside0.mk ((hb.block _ (blk_lt N3.out)).trans N3.out)
  have K1 := Aside0.mk (K0.out.trans (hb.mono K0.out.size))
  have GB := Aside0.mk (show w.heap.size + 3 ≤ gb by rw [hsz] at hgb; exact hgb)
  have LT := Aside0.mk (show w.heap.size + 3 ≤ w1.heap.size by have := hb.size; rw [hsz] at this; exact this)
  clear hbx hgb hb hsz N1 N2 N3 K0
  gi_wp2_with fail
  have HST := Aside0.mk (go48_stops 3 (by omega) (.slice A la.length ca) (.slice B lb.length cb) gb (w.heap.size + 1 + 1) (fun q => q = w.heap.size + 1 ∨ w1.heap.size ≤ q) w1 B1.out (by have h1 := B1.out.lt; have h2 := GB.out; omega) G3.out (by have := blk_lt G3.out; omega))
  refine wpIn_rangeFunc_ownF rfl (by omega) (gf := 48) (lb := #[.pointer (some ⟨gb, 0, none⟩)]) rfl trivial (enters_of Try.func48 (by kernel_rfl) rfl) HST.out
    (fun h k => h.then_ k (fun _ h => .inl h)) (fun W l o o' hl ho _ _ => Kept.of_grown (grownBy_putObj' W l o') (Kept.refl W _) (fun q e => by cases e; exact .inl (.inr hl))) (Below.refl _ _) (fun _ => rfl)
    (CI w y z ey ez) (fun _ _ _ => False) ?own ?ownx ?start
    (fun x => { tmps := #[.slice A la.length ca, .slice B lb.length cb, undef, undef, .pointer (some ⟨w.heap.size, 0, none⟩), .int .i64 0, .pointer (some ⟨w.heap.size + 1, 0, none⟩), .int .i64 (x : Int), rv (.slice A la.length ca) (.slice B lb.length cb) x, undef, undef, .slice A la.length ca, .slice B lb.length cb, .slice (some ⟨w.heap.size + 1 + 1, 0, none⟩) 2 2, .func (.func 48) #[] #[.pointer (some ⟨gb, 0, none⟩)], .int .i64 (x : Int), rv (.slice A la.length ca) (.slice B lb.length cb) x, undef, undef, undef, undef, undef, undef, undef, undef, undef, undef, undef, undef, undef, undef, undef, undef, undef, undef, undef, undef, undef, undef, undef, undef, undef, undef], defers := [] }) ?assign ?body ?done ?stop
  case own =>
    rintro s X Y row ⟨h1, h2, h3⟩ hg hr
    exact ⟨boxed_own h1 hg hr, boxed_own h2 hg hr, below_own h3 hg hr K1.out.size⟩
  case ownx => exact fun c s X Y row h => h.elim
  case start => exact ⟨G1.out, G2.out, K1.out⟩
  case assign =>
    intro l x W K hK
    gi_wp2_with ((rw [Oper.semAt_eq _ _ _ (fun c h => by cases h)]; go_simp; try go_bits))
    exact hK
  case body =>
    rintro l pre x W ⟨g1, g2, kb⟩ hlen
    obtain ⟨b, hb⟩ : ∃ b, b = bst y z ey ez pre := ⟨_, rfl⟩
    rw [← hb] at g2
    obtain ⟨ll, A', c', yy, ee, hV, hC, hc, hR, hst⟩ : ∃ (ll : List Int) (A' : Option Addr) (c' : Nat) (yy : S6) (ee : Int), rv (.slice A la.length ca) (.slice B lb.length cb) x = .slice A' ll.length c' ∧ Kd.C (Kd.int .u8) w A' ll.length ll ∧ ll.length ≤ c' ∧ Reads2 ll yy.v0 yy.v1 yy.v2 yy.v3 yy.v4 yy.v5 ee ∧ stp y z ey ez b x = (if ee = 0 ∧ slotI yy.v0 = (x : Int) ∧ yy.v0 > b.v0 then yy else b) := by
      rcases Nat.eq_zero_or_pos x with rfl | hx
      · exact ⟨la, A, ca, y, ey, rfl, A0.out, hca, RA.out, rfl⟩
      · exact ⟨lb, B, cb, z, ez, if_neg (by omega), B0.out, hcb, RB.out, by unfold stp; simp only [if_neg (show ¬ x = 0 by omega)]⟩
    have BS := Aside0.mk (show bst y z ey ez (pre ++ [x]) = (if ee = 0 ∧ slotI yy.v0 = (x : Int) ∧ yy.v0 > b.v0 then yy else b) by rw [bst_snoc, ← hb, hst])
    have H1 := Aside0.mk g1
    have H2 := Aside0.mk g2
    have KB := Aside0.mk kb
    have HC := Aside0.mk (Kd.C_below hC kb)
    have RX := Aside0.mk hR
    simp only [hV]
    clear g1 g2 kb hC hR hst hb hV hlen
    gi_wp2_with ((rw [Oper.semAt_eq _ _ _ (fun c h => by cases h)]; go_simp; try go_bits))
    refine ⟨trivial, CallsIn.inRound l (((callsIn_wide).2 (RX.out.code HC.out hc)).mono ?_)⟩
    rintro e W1 ⟨rfl, hb1⟩
    have hbn := hb1.alloc hb1.size (.cells (supCs yy.v0 yy.v1 yy.v2 yy.v3 yy.v4 yy.v5) 25)
    have L2 := Aside0.mk hbn
    have M1 := Aside0.mk ((hbn.block _ (blk_lt H1.out)).trans H1.out)
    have M2 := Aside0.mk ((hbn.block _ (blk_lt H2.out)).trans H2.out)
    have MY := Aside0.mk (heap_new W1 (.cells (supCs yy.v0 yy.v1 yy.v2 yy.v3 yy.v4 yy.v5) 25))
    clear hb1 hbn
    by_cases he : ee = 0
    case neg =>
      have hne : (ee == 0) = false := by simpa using he
      have BF := Aside0.mk (show bst y z ey ez (pre ++ [x]) = b by rw [BS.out, if_neg (fun h => he h.1)])
      clear he
      gi_wp2_with ((rw [Oper.semAt_eq _ _ _ (fun c h => by cases h)]; go_simp; try go_bits))
      refine ⟨trivial, ?_⟩
      gi_wp2_with ((rw [Oper.semAt_eq _ _ _ (fun c h => by cases h)]; go_simp; try go_bits))
      exact ⟨keeps_below L2.out, Kept.of_below L2.out _, M1.out, by rw [BF.out]; exact M2.out, KB.out.trans (L2.out.mono KB.out.size)⟩
    have hye : (ee == 0) = true := by simpa using he
    have HE := Aside0.mk he
    clear he
    obtain ⟨p0, p1, p2, p3, p4, p5⟩ := sup_cells MY.out
    gi_wp2_with ((rw [Oper.semAt_eq _ _ _ (fun c h => by cases h)]; go_simp; try go_bits))
    refine ⟨trivial, CallsIn.inRound l (((callsIn_wide).2 (slot_c _ yy.v0 yy.v1 yy.v2 yy.v3 yy.v4 yy.v5)).mono ?_)⟩
    rintro e W3 ⟨rfl, hb3⟩
    have L3 := Aside0.mk (L2.out.trans (hb3.mono L2.out.size))
    have P1 := Aside0.mk ((hb3.block _ (blk_lt M1.out)).trans M1.out)
    have P2 := Aside0.mk ((hb3.block _ (blk_lt M2.out)).trans M2.out)
    have PY := Aside0.mk ((hb3.block _ (blk_lt MY.out)).trans MY.out)
    clear hb3 p0 p1 p2 p3 p4 p5
    by_cases hs : slotI yy.v0 = (x : Int)
    case neg =>
      have hne : (slotI yy.v0 == (x : Int)) = false := by simpa using hs
      have BF := Aside0.mk (show bst y z ey ez (pre ++ [x]) = b by rw [BS.out, if_neg (fun h => hs h.2.1)])
      clear hs
      gi_wp2_with ((rw [Oper.semAt_eq _ _ _ (fun c h => by cases h)]; go_simp; try go_bits))
      exact ⟨keeps_below L3.out, Kept.of_below L3.out _, P1.out, by rw [BF.out]; exact P2.out, KB.out.trans (L3.out.mono KB.out.size)⟩
    have hne : (slotI yy.v0 == (x : Int)) = true := by simpa using hs
    have HS := Aside0.mk hs
    clear hs
    obtain ⟨p0, p1, p2, p3, p4, p5⟩ := sup_cells PY.out
    obtain ⟨q0, q1, q2, q3, q4, q5⟩ := sup_cells P2.out
    by_cases hg : yy.v0 > b.v0
    case neg =>
      have hgd : decide (yy.v0 > b.v0) = false := decide_eq_false hg
      have hgd2 : decide (b.v0 < yy.v0) = false := decide_eq_false hg
      have BF := Aside0.mk (show bst y z ey ez (pre ++ [x]) = b by rw [BS.out, if_neg (fun h => hg h.2.2)])
      clear hg
      gi_wp2_with ((rw [Oper.semAt_eq _ _ _ (fun c h => by cases h)]; go_simp; try go_bits))
      exact ⟨keeps_below L3.out, Kept.of_below L3.out _, P1.out, by rw [BF.out]; exact P2.out, KB.out.trans (L3.out.mono KB.out.size)⟩
    have hgd : decide (yy.v0 > b.v0) = true := decide_eq_true hg
    have hgd2 : decide (b.v0 < yy.v0) = true := decide_eq_true hg
    have BF := Aside0.mk (show bst y z ey ez (pre ++ [x]) = yy by rw [BS.out, if_pos ⟨HE.out, HS.out, hg⟩])
    clear hg
    have f0 := blk_frozen P2.out 0
    have f1 := blk_frozen P2.out 1
    have f2 := blk_frozen P2.out 2
    have f3 := blk_frozen P2.out 3
    have f4 := blk_frozen P2.out 4
    have f5 := blk_frozen P2.out 5
    gi_wp2_with ((rw [Oper.semAt_eq _ _ _ (fun c h => by cases h)]; go_simp; try go_bits))
    have h6 := six_set P2.out P1.out (KB.out.trans (L3.out.mono KB.out.size)) (.int .i64 yy.v0) (.int .i64 yy.v1) (.int .i64 yy.v2) (.int .i64 yy.v3) (.int .i64 yy.v4) (.int .i64 yy.v5)
    have k6 := six_keeps W3 (w.heap.size + 1) (.int .i64 yy.v0) (.int .i64 yy.v1) (.int .i64 yy.v2) (.int .i64 yy.v3) (.int .i64 yy.v4) (.int .i64 yy.v5) (S := fun q => q = w.heap.size + 1 ∨ w1.heap.size ≤ q) (Kept.of_below L3.out _) (.inl rfl)
    exact ⟨(keeps_below L3.out).trans k6.1, k6.2, h6.2.1, by rw [BF.out]; exact h6.1, h6.2.2⟩
  case done =>
    rintro D xs W hD rfl ⟨g1, g2, kb⟩ hK
    rw [HR.out] at g2
    have H1 := Aside0.mk g1
    have H2 := Aside0.mk g2
    have KB := Aside0.mk kb
    have HKK := Aside0.mk hK
    have HDD := Aside0.mk hD
    clear g1 g2 kb hK hD
    obtain ⟨p0, p1, p2, p3, p4, p5⟩ := sup_cells H2.out
    obtain ⟨q0, q1, q2, q3, q4, q5⟩ := sup_cells H1.out
    have f0 := blk_frozen H1.out 0
    have f1 := blk_frozen H1.out 1
    have f2 := blk_frozen H1.out 2
    have f3 := blk_frozen H1.out 3
    have f4 := blk_frozen H1.out 4
    have f5 := blk_frozen H1.out 5
    rcases HZ.out with ⟨h1, h2⟩ | ⟨h1, h2⟩
    · subst h2
      subst h1
      gi_wp2_with fail
      have h6 := set6 H1.out KB.out (Nat.le_refl _) (.int .i64 0) (.int .i64 0) (.int .i64 0) (.int .i64 0) (.int .i64 0) (.int .i64 0)
      have lt1 := LT.out
      have hd2 := HDD.out
      have hK2 : ((((((W.setCell ⟨w.heap.size, 0, none⟩ (.int .i64 0)).setCell ⟨w.heap.size, 1, none⟩ (.int .i64 0)).setCell ⟨w.heap.size, 2, none⟩ (.int .i64 0)).setCell ⟨w.heap.size, 3, none⟩ (.int .i64 0)).setCell ⟨w.heap.size, 4, none⟩ (.int .i64 0)).setCell ⟨w.heap.size, 5, none⟩ (.int .i64 0)).heap[D]? = some (.deferred (some [])) := by
        exact (six_far W w.heap.size (by omega) _ _ _ _ _ _).trans HKK.out
      refine ⟨by simp, .inl ⟨_, _, rfl, run_takeDeferred hK2, ?_⟩⟩
      have hgo := hgo_of hK2
      have hbox := boxed_own (N := D) h6.1 (grownBy_putObj' _ D (.deferred none)) hgo
      have hkb := below_own (N := D) h6.2 (grownBy_putObj' _ D (.deferred none)) hgo (by omega)
      exact ⟨_, results_ct rfl _ _ w.heap.size 25 #[.int .i64 0, .int .i64 0, .int .i64 0, .int .i64 0, .int .i64 0, .int .i64 0] (0, 0) _ rfl hbox Try.underlying25 rfl (by kernel_rfl), rfl, hkb⟩
    · subst h2
      have hb0 : (r.v0 == 0) = false := by simpa using h1
      clear h1
      gi_wp2_with fail
      have h6 := set6 H1.out KB.out (Nat.le_refl _) (.int .i64 r.v0) (.int .i64 r.v1) (.int .i64 r.v2) (.int .i64 r.v3) (.int .i64 r.v4) (.int .i64 r.v5)
      have lt1 := LT.out
      have hd2 := HDD.out
      have hK2 : ((((((W.setCell ⟨w.heap.size, 0, none⟩ (.int .i64 r.v0)).setCell ⟨w.heap.size, 1, none⟩ (.int .i64 r.v1)).setCell ⟨w.heap.size, 2, none⟩ (.int .i64 r.v2)).setCell ⟨w.heap.size, 3, none⟩ (.int .i64 r.v3)).setCell ⟨w.heap.size, 4, none⟩ (.int .i64 r.v4)).setCell ⟨w.heap.size, 5, none⟩ (.int .i64 r.v5)).heap[D]? = some (.deferred (some [])) := by
        exact (six_far W w.heap.size (by omega) _ _ _ _ _ _).trans HKK.out
      refine ⟨by simp, .inl ⟨_, _, rfl, run_takeDeferred hK2, ?_⟩⟩
      have hgo := hgo_of hK2
      have hbox := boxed_own (N := D) h6.1 (grownBy_putObj' _ D (.deferred none)) hgo
      have hkb := below_own (N := D) h6.2 (grownBy_putObj' _ D (.deferred none)) hgo (by omega)
      exact ⟨_, results_ct rfl _ _ w.heap.size 25 #[.int .i64 r.v0, .int .i64 r.v1, .int .i64 r.v2, .int .i64 r.v3, .int .i64 r.v4, .int .i64 r.v5] (0, 0) _ rfl hbox Try.underlying25 rfl (by kernel_rfl), rfl, hkb⟩
  case stop =>
    rintro D c' pre W hD _ h _
    exact h.elim
end Go.Proofs.Ytojolpamgijcbaa.Pure
