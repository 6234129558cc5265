/- pending: the writes that are pending, at most so many: walked. -/
import Derived.Test.YthnadkdfgckijaaDkQ
namespace Go.Proofs.Ythnadkdfgckijaa.Pure
open Go.RowKit Go.Proofs.Ythnadkdfgckijaa Go.Proofs.Ythnadkdfgckijaa.PAll Go.Proofs.Ythnadkdfgckijaa.Mem Go.Proofs.YthnadkdfgckijaaW.PrintWords Go.Proofs.YthnadkdfgckijaaW.PrintLast Go.Proofs.YthnadkdfgckijaaW.PrintMore
set_option linter.unusedVariables false
set_option linter.unusedSimpArgs false

/-- What a disk's Pending leaves: an iterator over a row of its own. -/
def Pends (w : World) (pd : Value) (P : List (Int × List Int)) : Prop :=
  ∀ w1, Below w.heap.size w w1 → Calls Try.prog 61 #[pd] w1 fun e w' => ∃ gL, e = .returned (.func (.func 89) #[] #[.pointer (some ⟨gL, 0, none⟩)]) ∧ w1.heap.size ≤ gL ∧ PenAt w' gL (fun k => (k < w.heap.size ∨ w1.heap.size ≤ k) ∧ k ≠ gL) P ∧ Below w1.heap.size w1 w'
theorem dk_pends {w : World} {g : Nat} {s : DS} {V : Nat → Prop} (h : Dk w g s V) (hP : s.P.length ≤ 1000000) : Pends w (.pointer (some ⟨g, 0, none⟩)) s.P := fun w1 hb =>
  pend_f ((h.mono (V' := fun k => k < w.heap.size) (fun k _ hk => hk)).below hb) hP
/-- The parts of the range's invariant, ahead of a round, in it, where it is left. -/
def QI (w : World) (B1 : Nat) (most : Int) (P : List (Int × List Int)) (k : Nat) (W : World) : Prop := k ≤ most.toNat ∧ PenI w B1 most (fun q => B1 ≤ q) (P.take k) W
def QI' (w : World) (B1 : Nat) (most : Int) (P : List (Int × List Int)) (k : Nat) (v : Array Value) (W : World) : Prop :=
  k ≤ most.toNat ∧ ∃ T Y yd, B1 ≤ T ∧ v = #[.int .i64 (pI P k), .slice Y 256 yd] ∧ PenI w B1 most (fun q => B1 ≤ q ∧ q < T) (P.take k) W ∧ Kd.R (Kd.int .u8) 5 W 0 (fun q => T ≤ q) (.slice Y 256 yd) (pB P k)
def QIx (w : World) (B1 : Nat) (most : Int) (P : List (Int × List Int)) (c : Code) (k : Nat) (W : World) : Prop := c = .exit 0 ∧ PenI w B1 most (fun q => B1 ≤ q) (P.take most.toNat) W
theorem qi_meet {w : World} {B1 : Nat} {most : Int} {P : List (Int × List Int)} (k : Nat) (v : Array Value) (W0 W1 : World) (hk : k < P.length) (h : QI w B1 most P k W0) (hv : penV (pI P) (pB P) k v W0 W1) : QI' w B1 most P k v W1 := by
  obtain ⟨Y, yd, rfl, hR, hb⟩ := hv
  exact ⟨h.1, W0.heap.size, Y, yd, h.2.s, rfl, (h.2.upto).below hb, hR⟩
theorem take_snoc {P : List (Int × List Int)} {k : Nat} (h : k < P.length) : P.take (k + 1) = P.take k ++ [(pI P k, pB P k)] := by
  rw [List.take_succ_eq_append_getElem h]
  unfold pI pB
  rw [List.getD_eq_getElem?_getD, List.getElem?_eq_getElem h]
  rfl
theorem take_len {P : List (Int × List Int)} {k : Nat} (h : k < P.length) : (P.take k).length = k := by rw [List.length_take]; omega
theorem most_f {k : Nat} {most : Int} (h : ¬ (k : Int) ≥ most) : k + 1 ≤ most.toNat := by omega
theorem most_t {k : Nat} {most : Int} (h : (k : Int) ≥ most) (h1 : k ≤ most.toNat) : k = most.toNat := by omega
theorem pend_start (w : World) (most : Int) : Boxed ((w.alloc (.cells #[.int .i64 most] 3)).alloc (.cells #[.slice none 0 0] 38)) w.heap.size 3 (.int .i64 most) ∧ Boxed ((w.alloc (.cells #[.int .i64 most] 3)).alloc (.cells #[.slice none 0 0] 38)) (w.heap.size + 1) 38 (.slice none 0 0) ∧ Below w.heap.size w ((w.alloc (.cells #[.int .i64 most] 3)).alloc (.cells #[.slice none 0 0] 38)) ∧ ((w.alloc (.cells #[.int .i64 most] 3)).alloc (.cells #[.slice none 0 0] 38)).heap.size = w.heap.size + 2 := by
  refine ⟨(Boxed.new w 3 (.int .i64 most)).alloc _, ?_, below_alloc (below_alloc (Below.refl w.heap.size w) _) _, by simp⟩
  have := Boxed.new (w.alloc (.cells #[.int .i64 most] 3)) 38 (.slice none 0 0)
  rwa [World.size_alloc] at this
set_option maxRecDepth 100000 in
set_option maxHeartbeats 16000000 in
theorem pending_c {w : World} {pd : Value} {P : List (Int × List Int)} (hpd : Pends w pd P) (hP : P.length ≤ 1000000) (hlen : ∀ x ∈ P, x.2.length = 256) (most : Int) :
    Calls Try.prog 22 #[pd, .int .i64 most] w fun e w' => ∃ A c, e = .returned (.slice A (P.take most.toNat).length c) ∧ (P.take most.toNat).length ≤ c ∧ Kd.R kW 43 w' 0 (fun k => w.heap.size ≤ k) (.slice A (P.take most.toNat).length c) (P.take most.toNat) ∧ Below w.heap.size w w' := by
  have HPD := Aside0.mk hpd
  have HP := Aside0.mk hP
  have HLN := Aside0.mk hlen
  clear hpd hP hlen
  refine (callsIn_wide (n := 4)).1 ?_
  refine callsIn_of_wp_marks Try.func22 rfl trivial ?_ rfl
  simp only [Try.ntmps22, List.size_toArray, List.length_cons, List.length_nil, Nat.reduceAdd, Nat.reduceSub, Array.replicate_succ, Array.replicate_zero, List.push_toArray, List.append_toArray, List.nil_append, List.cons_append]
  gi_wp2_with fail
  obtain ⟨s1, s2, s3, s4⟩ := pend_start w most
  obtain ⟨w1, hw1⟩ : ∃ x, x = (w.alloc (.cells #[.int .i64 most] 3)).alloc (.cells #[.slice none 0 0] 38) := ⟨_, rfl⟩
  rw [← hw1] at s1 s2 s3 s4 ⊢
  clear hw1
  refine ⟨trivial, ((callsIn_wide (n := 4 - 1)).2 (HPD.out w1 s3)).mono ?_⟩
  rintro e w2 ⟨gL, rfl, hgL, hPA, hb⟩
  have X1 := Aside0.mk (show Boxed w2 w.heap.size 3 (.int .i64 most) from (hb.block _ s1.lt).trans s1)
  have X2 := Aside0.mk (show Boxed w2 (w.heap.size + 1) 38 (.slice none 0 0) from (hb.block _ s2.lt).trans s2)
  have KB := Aside0.mk (s3.trans (hb.mono s3.size))
  have SZ := Aside0.mk (show w.heap.size + 2 ≤ w2.heap.size from s4 ▸ hb.size)
  have GL := Aside0.mk (show w.heap.size + 2 ≤ gL ∧ gL < w2.heap.size from ⟨s4 ▸ hgL, by obtain ⟨v, q, _⟩ := hPA; exact q.lt⟩)
  have HST := Aside0.mk (seq89 (n := 3) (by decide) hPA (fun q => q = w.heap.size + 1 ∨ w2.heap.size ≤ q) (fun k hk hlt => by rw [s4] at hk; rintro (e | e) <;> omega) (by have := GL.out; rintro (e | e) <;> omega) HP.out HLN.out)
  clear hb hPA hgL s1 s2 s3 s4
  gi_wp2_with fail
  simp only [nil108, Result.andThen]
  gi_wp2_with fail
  refine range_v (by decide) (gf := 89) (lb := #[.pointer (some ⟨gL, 0, none⟩)]) rfl (enters_of Try.func89 (by kernel_rfl) rfl) HST.out (fun q hq => .inr hq) (fun k v W0 W1 hv => by obtain ⟨Y, yd, rfl, _, hb⟩ := hv; exact ⟨hb, rfl⟩)
    (QI w w2.heap.size most P) (QI' w w2.heap.size most P) (QIx w w2.heap.size most P) ?own ?own' ?ownx ?start (fun v => { tmps := #[pd, .int .i64 most, undef, .pointer (some ⟨w.heap.size, 0, none⟩), .slice none 0 0, .pointer (some ⟨w.heap.size + 1, 0, none⟩), (.func (.func 89) #[] #[.pointer (some ⟨gL, 0, none⟩)]), v.getD 0 undef, v.getD 1 undef, pd, (.func (.func 89) #[] #[.pointer (some ⟨gL, 0, none⟩)]), (.func (.func 89) #[] #[.pointer (some ⟨gL, 0, none⟩)]), .bool false, (.func (.func 89) #[] #[.pointer (some ⟨gL, 0, none⟩)]), v.getD 0 undef, v.getD 1 undef, undef, undef, undef, undef, undef, undef, undef, undef, undef, undef, undef], defers := [] }) qi_meet ?assign ?body ?done ?stop
  case own =>
    rintro k A B row ⟨h1, h2⟩ hg hr
    exact ⟨h1, h2.grown (Nat.le_trans (by omega) SZ.out) hg hr⟩
  case own' =>
    rintro k v W o o' ⟨h1, T, Y, yd, h2, h3, h4, h5⟩ ho hc
    have hr : ∀ r, some (w2.heap.size + 1) = some r → w2.heap.size ≤ r ∧ ∃ o : Obj, W.heap[r]? = some o ∧ o.isCells = false := fun r e => by cases e; exact ⟨Nat.le_succ _, o, ho, hc⟩
    exact ⟨h1, T, Y, yd, h2, h3, h4.grown (Nat.le_trans (by omega) SZ.out) (grownBy_putObj' _ _ _) hr, R_grown h5 (grownBy_putObj' _ _ _) hr⟩
  case ownx =>
    rintro c k A B row ⟨h1, h2⟩ hg hr
    exact ⟨h1, h2.grown (Nat.le_trans (by omega) SZ.out) hg hr⟩
  case start => exact ⟨Nat.zero_le _, X1.out, ⟨_, X2.out, Kd.R_nil _ _ _ _ _⟩, KB.out, Nat.le_refl _⟩
  case assign =>
    rintro l k v W K hk ⟨h1, T, Y, yd, h2, rfl, h4, h5⟩ hK
    clear h4 h5
    have HK := Aside0.mk hK
    clear hK
    gi_wp2_with ((rw [Oper.semAt_eq _ _ _ (fun c h => by cases h)]; go_simp; try go_bits))
    exact HK.out
  case body =>
    rintro l k v W hk ⟨h1, T, Y, yd, h2, rfl, h4, h5⟩
    obtain ⟨b3, ⟨v, b5, hR⟩, kb, hs⟩ := h4
    obtain ⟨Av, cv, rfl, hcv, _⟩ := R_own hR
    rw [take_len hk] at b5 hR
    have hc3 := b3.cell
    have hc5 := b5.cell
    have hf5 := b5.frozen
    have HK := Aside0.mk hk
    have H1 := Aside0.mk h1
    have H2 := Aside0.mk h2
    have H5 := Aside0.mk h5
    have B3 := Aside0.mk b3
    have B5 := Aside0.mk b5
    have RR := Aside0.mk hR
    have KW := Aside0.mk kb
    have HS := Aside0.mk hs
    clear hcv h2 h5 hR kb hs hk
    by_cases hmo : (k : Int) ≥ most
    · have h1b : decide ((k : Int) ≥ most) = true := decide_eq_true hmo
      have HE := Aside0.mk (most_t hmo h1)
      clear hmo h1
      gi_wp2_with (rw [Oper.semAt_eq _ _ _ (fun c h => by cases h)]; go_simp; try go_bits)
      exact ⟨KeepsOthers.refl _, rfl, by rw [← HE.out]; exact ⟨B3.out, ⟨_, B5.out, Kd.R_mono RR.out (fun q hq => hq.1)⟩, KW.out, HS.out⟩⟩
    · have h1b : decide ((k : Int) ≥ most) = false := decide_eq_false hmo
      have HM := Aside0.mk (most_f hmo)
      clear hmo h1
      gi_wp2_with (first
        | (gi_at_builtin; refine wpListIn_append_R kW (W := W) 0 (by rfl) (.tmp 20) (.tmp 24) 38 43 (.agg #[.int .i64 0, .slice none 0 0]) 32 rfl Try.underlying38 info43 rfl (by decide) (by decide) (.slice Av k cv) (P.take k) (pI P k, pB P k) [.int .i64 (pI P k), .slice Y 256 yd] (fun q => w2.heap.size ≤ q) (fun q => T ≤ q) rfl rfl (pen_make2 H5.out) (fun q hq => ⟨Nat.le_trans H2.out hq, fun e => Nat.lt_irrefl _ (Nat.lt_of_lt_of_le (RR.out.1 q e.symm).2 hq)⟩) (fun q hq => Nat.le_trans HS.out hq) (Kd.R_mono RR.out (fun q hq => hq.1)) (Nat.zero_le _) (by rw [take_len HK.out]; have := HK.out; have := HP.out; omega) ?_; intro v1 w3 hR1 hg1; obtain ⟨A1, c1, hv1e, _, _⟩ := R_own hR1; obtain ⟨n1, hn1⟩ : ∃ n1, n1 = (P.take k ++ [(pI P k, pB P k)]).length := ⟨_, rfl⟩; rw [← hn1] at hv1e; subst hv1e; have STEP := Aside0.mk (pen_step SZ.out B3.out B5.out RR.out (fun q hq => hq.1) KW.out HS.out hg1 hR1); have hc1 := STEP.out.1.cell; have hf1 := STEP.out.1.frozen; clear hR1 hg1 hc3 hc5 hf5 hn1)
        | (rw [Oper.semAt_eq _ _ _ (fun c h => by cases h)]; go_simp; try go_bits))
      exact ⟨STEP.out.2.1, STEP.out.2.2.1, HM.out, by rw [take_snoc HK.out]; exact STEP.out.2.2.2⟩
  case done =>
    rintro W ⟨h1, h4⟩ hD
    rw [List.take_length] at h4
    have hl : P.take most.toNat = P := List.take_of_length_le h1
    rw [← hl] at h4
    obtain ⟨v, b5, hR⟩ := h4.l
    obtain ⟨Av, cv, rfl, hcv, _⟩ := R_own hR
    obtain ⟨nn, hnn⟩ : ∃ nn, nn = (P.take most.toNat).length := ⟨_, rfl⟩
    rw [← hnn] at b5 hR hcv
    have HNN := Aside0.mk hnn
    clear hnn
    have hc5 := b5.cell
    have H4 := Aside0.mk h4
    have HC := Aside0.mk hcv
    have HRR := Aside0.mk (R_grown hR (grownBy_putObj' _ w2.heap.size (.deferred none)) (hgo_of hD))
    have KB2 := Aside0.mk (below_own h4.b (grownBy_putObj' _ w2.heap.size (.deferred none)) (hgo_of hD) (Nat.le_trans (by omega) SZ.out))
    have HDD := Aside0.mk hD
    clear h4 b5 hR hcv hD
    gi_wp2_with fail
    refine ⟨by simp, .inl ⟨_, _, rfl, run_takeDeferred HDD.out, ?_⟩⟩
    refine ⟨_, results_tmp rfl _ _ _, ?_⟩
    rw [← HNN.out]
    exact ⟨Av, cv, rfl, HC.out, Kd.R_mono HRR.out (fun q hq => Nat.le_trans (Nat.le_trans (Nat.le_add_right _ 2) SZ.out) hq), KB2.out⟩
  case stop =>
    rintro c k W hk ⟨rfl, h4⟩ hD
    obtain ⟨v, b5, hR⟩ := h4.l
    obtain ⟨Av, cv, rfl, hcv, _⟩ := R_own hR
    obtain ⟨nn, hnn⟩ : ∃ nn, nn = (P.take most.toNat).length := ⟨_, rfl⟩
    rw [← hnn] at b5 hR hcv
    have HNN := Aside0.mk hnn
    clear hnn
    have hc5 := b5.cell
    have H4 := Aside0.mk h4
    have HC := Aside0.mk hcv
    have HRR := Aside0.mk (R_grown hR (grownBy_putObj' _ w2.heap.size (.deferred none)) (hgo_of hD))
    have KB2 := Aside0.mk (below_own h4.b (grownBy_putObj' _ w2.heap.size (.deferred none)) (hgo_of hD) (Nat.le_trans (by omega) SZ.out))
    have HDD := Aside0.mk hD
    clear h4 b5 hR hcv hD
    gi_wp2_with fail
    refine ⟨by simp, .inl ⟨_, _, rfl, run_takeDeferred HDD.out, ?_⟩⟩
    refine ⟨_, results_tmp rfl _ _ _, ?_⟩
    rw [← HNN.out]
    exact ⟨Av, cv, rfl, HC.out, Kd.R_mono HRR.out (fun q hq => Nat.le_trans (Nat.le_trans (Nat.le_add_right _ 2) SZ.out) hq), KB2.out⟩
end Go.Proofs.Ythnadkdfgckijaa.Pure
