-- Written for this claim by a program of this session's own: each Go function that the law uses, as a plain Lean function, with the proof that the machine's call comes to it.
import Derived.Test.YtckdnkiacnonkaaPAllx0
import Derived.Test.YtckdnkiacnonkaaPAllx2
import Derived.RangeFuncBox
import Derived.RangeFuncFrom
import Derived.RangeFuncMany
import Derived.RangeFuncLeaves
import Derived.Shelf.Abstract
import Derived.OwnWalkIn
import Derived.TacticsInMore
import Derived.LoopNIn
import Derived.LoopIn
import Derived.BigFrameIn
namespace Go.Proofs.Ytckdnkiacnonkaa.PAll
open Go.RowKit Go.Proofs.YtckdnkiacnonkaaW.PrintWords Go.Proofs.YtckdnkiacnonkaaW.PrintLast Go.Proofs.YtckdnkiacnonkaaW.PrintMore
attribute [local go_sem] max2_int min2_int max_two min_two max_three min_three max_four min_four   -- for this text's walks alone
set_option linter.unusedVariables false
set_option linter.unusedSimpArgs false

attribute [local go_sem] setCell_drewN_
/-! ### class_Of: function 30 -/
-- BY HAND
/-- A class's slot. -/
def class_Of.slot (c : Nat) : Int := 32 * 2 ^ c
abbrev class_Of.encs (c : Nat) : Array Value := #[.int .i64 (c : Int), .int .i64 (class_Of.slot c)]
theorem class_Of.slotf (c : Nat) (h : c < 6) : class_Slot.f (c : Int) = some (class_Of.slot c) := by
  have hc : c = 0 ∨ c = 1 ∨ c = 2 ∨ c = 3 ∨ c = 4 ∨ c = 5 := by omega
  rcases hc with rfl | rfl | rfl | rfl | rfl | rfl <;> decide +kernel
set_option maxRecDepth 100000 in
set_option maxHeartbeats 2000000 in
theorem class_Of.all1 (n : Nat) (hn : 1 ≤ n) (l : Nat) (J Jx : List Nat → World → Prop)
    (hY : ∀ pre x W, J pre W → pre.length < 6 → YieldAt Fence.wide (n - 1) Try.prog l (class_Of.encs x) W fun e W' =>
      (e = .returned (.bool true) ∧ J (pre ++ [x]) W') ∨ (e = .returned (.bool false) ∧ Jx (pre ++ [x]) W'))
    (hD : ∀ pre W n, J pre W → J pre (W.drewN n))
    (W : World) (h0 : J [] W) :
    CallsIn Fence.wide n Try.prog 51 #[.func (.yield l) #[] #[]] W fun e W' => (∃ v, e = .returned v) ∧
      ((∃ ys, ys = List.range 6 ∧ J ys W') ∨ (∃ pre, (∃ k, k ≤ 6 ∧ pre = List.range k) ∧ Jx pre W')) := by
  refine callsIn_of_wp Try.func51 rfl trivial ?_ rfl
  simp only [Try.ntmps51, List.size_toArray, List.length_cons, List.length_nil, Nat.reduceAdd, Nat.reduceSub, Array.replicate_succ, Array.replicate_zero, List.push_toArray, List.append_toArray, List.nil_append, List.cons_append]
  gi_wp2
  gi_loopw [2, 3] (fun v i wr => ∃ k : Nat, k ≤ 6 ∧ i = .int .i64 k ∧ J (List.range k) wr)
    (fun _ i _ => 6 - (intOf i).toNat)
  case atStart => exact ⟨0, Nat.zero_le _, rfl, h0⟩
  case round =>
    obtain ⟨k, hk, rfl, hJs⟩ := hrel
    by_cases hlt : k < 6
    · have HS := Aside0.mk (class_Of.slotf k hlt)
      have hJd := fun n => hD _ _ n hJs
      gi_wp2_with fail
      refine ⟨trivial, ((callsIn_wide (n := n - 1)).2 (class_Slot.calls _ _ _ HS.out)).mono ?_⟩
      rintro e w' ⟨rfl, ⟨nd, rfl⟩⟩
      obtain ⟨fn, tmps, assign, body, hy, hR⟩ := hY _ k (wr.drewN nd) (hJd nd) (by rw [List.length_range]; exact hlt)
      dsimp only [class_Of.encs] at hy
      clear hJd
      gi_wp2
      refine hR.mono ?_
      rintro e W3 (⟨rfl, hJ3⟩ | ⟨rfl, hJx3⟩)
      · gi_wp2
        go_roundw
        case rel => exact ⟨k + 1, by omega, by simp, by rw [List.range_succ]; exact hJ3⟩
        case measure => simp [intOf]; omega
      · gi_wp2
        refine bodyPost_ret (results_none rfl _ _ _) rfl ?_
        exact ⟨⟨_, rfl⟩, .inr ⟨_, ⟨k + 1, by omega, List.range_succ.symm⟩, hJx3⟩⟩
    · obtain rfl : k = 6 := by omega
      gi_wp2
      go_end0
      exact ⟨⟨_, rfl⟩, .inl ⟨_, rfl, hJs⟩⟩
theorem class_Of.all_stops (n n₀ : Nat) (hn : 1 ≤ n) (w : World) :
    SeqStopsK Fence.wide n Try.prog 51 #[] class_Of.encs (Below n₀) (fun ys => ys = List.range 6) (fun pre => ∃ k, k ≤ 6 ∧ pre = List.range k) 6 w := fun l J Jx W hW hJ _ hY h0 => by
  refine class_Of.all1 n hn l J Jx (fun pre x W1 h1 h2 => ?_) (fun pre W1 nd h1 => hJ pre W1 _ none h1 ⟨rfl, rfl, rfl, Nat.le_refl _, fun _ _ _ => rfl⟩ (fun r e => by cases e)) W h0
  obtain ⟨fn, tmps, assign, body, hy, hR⟩ := hY pre x W1 h1 h2
  refine ⟨fn, tmps, assign, body, hy, hR.mono ?_⟩
  rintro e W3 (⟨rfl, hJ3, _⟩ | ⟨rfl, hJx3⟩)
  · exact .inl ⟨rfl, hJ3⟩
  · exact .inr ⟨rfl, hJx3⟩
def class_Of.ofN (n : Int) : Int × Int := if n ≤ 32 then (0, 0) else if n ≤ 64 then (1, 0) else if n ≤ 128 then (2, 0) else if n ≤ 256 then (3, 0) else if n ≤ 512 then (4, 0) else if n ≤ 1024 then (5, 0) else (0, 111)
def class_Of.f (a0_0 : Int) (a0_1 : Int) (a0_2 : Int) : Option (Int × Int) := (class_Check.f a0_0 a0_1 a0_2).bind fun e => if e = 0 then ((class_Size.f a0_0 a0_1 a0_2).bind fun n => some (class_Of.ofN n)) else some (0, e)
theorem class_Of.all_in (w : World) : CallsIn Fence.wide 3 Try.prog 47 #[] w fun e w' => e = .returned (.func (.func 51) #[] #[]) ∧ w' = w := by
  refine callsIn_of_wp Try.func47 rfl trivial ?_ rfl
  simp only [Try.ntmps47, List.size_toArray, List.length_cons, List.length_nil, Nat.reduceAdd, Nat.reduceSub, Array.replicate_succ, Array.replicate_zero, List.push_toArray, List.append_toArray, List.nil_append, List.cons_append]
  gi_wp2
  go_ret
  exact ⟨rfl, rfl⟩
theorem class_Of.boxed_own {A B : World} {row : Option Nat} {g t : Nat} {v : Value} {N : Nat} (h : Boxed A g t v) (hg : A.grownBy B row) (hr : ∀ r, row = some r → N ≤ r ∧ ∃ o : Obj, A.heap[r]? = some o ∧ o.isCells = false) : Boxed B g t v := by
  refine h.kept hg (fun e => ?_)
  obtain ⟨_, o, ho, hc⟩ := hr g e.symm
  rw [show A.heap[g]? = _ from h] at ho
  cases ho
  cases hc
theorem class_Of.boxed_set_far {W : World} {B t : Nat} {v : Value} (h : Boxed W B t v) (b : Nat) (u : Value) (hne : b ≠ B) : Boxed (W.setCell ⟨b, 0, none⟩ u) B t v :=
  h.kept (grownBy_setCell' W b u) (fun e => hne (by injection e with e; exact e.symm))
theorem class_Of.below_own {w A B : World} {row : Option Nat} {N : Nat} (h : Below w.heap.size w A) (hg : A.grownBy B row) (hr : ∀ r, row = some r → N ≤ r ∧ ∃ o : Obj, A.heap[r]? = some o ∧ o.isCells = false) (hN : w.heap.size ≤ N) : Below w.heap.size w B := by
  refine h.trans (Below.grown (Below.refl _ _) hg h.size (fun j e => ?_))
  have := (hr j e).1
  omega
theorem class_Of.bcell {W w1 : World} (hb : Below W.heap.size W w1) : (∀ b o, b < W.heap.size → w1.cell? ⟨b, o, none⟩ = W.cell? ⟨b, o, none⟩) ∧ (∀ b o, b < W.heap.size → w1.frozen? ⟨b, o, none⟩ = W.frozen? ⟨b, o, none⟩) :=
  ⟨fun b o h => hb.cell (p := ⟨b, o, none⟩) h, fun b o h => hb.frozen (p := ⟨b, o, none⟩) h⟩
theorem class_Of.boxed_below {W W' : World} {B : Nat} {t : TypeId} {v : Value} (h : Boxed W B t v) (hb : Below W.heap.size W W') : Boxed W' B t v := (hb.block B h.lt).trans h
theorem class_Of.box_new2 (W : World) (o : Obj) (t : TypeId) (v : Value) (o2 : Obj) : Boxed ((((W.alloc o).alloc (.cells #[v] t))).alloc o2) (W.heap.size + 1) t v := by
  have := (Boxed.new (W.alloc o) t v).alloc o2
  simpa using this
set_option maxRecDepth 100000 in
set_option maxHeartbeats 4000000 in
theorem class_Of.calls (a0_0 : Int) (a0_1 : Int) (a0_2 : Int) (r1 : Int) (r2 : Int) (w : World) (h : class_Of.f a0_0 a0_1 a0_2 = some (r1, r2)) :
    Calls Try.prog 30 #[.agg #[.int .i64 a0_0, .int .i64 a0_1, .int .i64 a0_2]] w fun e w' => e = .returned (.tuple #[.int .i64 r1, .int .i64 r2]) ∧ Below w.heap.size w w' := by
  unfold class_Of.f at h
  obtain ⟨e0, hC, h⟩ := Option.bind_eq_some_iff.1 h
  have HC := Aside0.mk hC
  clear hC
  refine (callsIn_wide (n := 4)).1 ?_
  refine callsIn_of_wp_marks Try.func30 rfl trivial ?_ rfl
  simp only [Try.ntmps30, List.size_toArray, List.length_cons, List.length_nil, Nat.reduceAdd, Nat.reduceSub, Array.replicate_succ, Array.replicate_zero, List.push_toArray, List.append_toArray, List.nil_append, List.cons_append]
  by_cases h0 : e0 = 0
  · subst h0
    rw [if_pos rfl] at h
    obtain ⟨n, hS, h⟩ := Option.bind_eq_some_iff.1 h
    have HS := Aside0.mk hS
    have H := Aside0.mk h
    clear hS h
    gi_wp2_with fail
    refine ⟨trivial, ((callsIn_wide (n := 3)).2 (class_Check.calls _ _ _ _ _ HC.out)).mono ?_⟩
    rintro e w1 ⟨rfl, hb⟩
    obtain ⟨hc, hf⟩ := class_Of.bcell hb
    have hz : w.heap.size + 1 + 1 < w1.heap.size := by have := hb.size; simp at this; omega
    have K1 := Aside0.mk (((((Below.refl _ w).alloc (Nat.le_refl _) _).alloc (by simp) _).alloc (by simp; omega) _).trans (hb.mono (by simp; omega)))
    have B2 := Aside0.mk (class_Of.boxed_below (class_Of.box_new2 w (.cells #[.int .i64 a0_0, .int .i64 a0_1, .int .i64 a0_2] 23) 3 (.int .i64 0) (.cells #[.int .i64 0] 25)) hb)
    have B3 := Aside0.mk (class_Of.boxed_below (Boxed.new ((w.alloc (.cells #[.int .i64 a0_0, .int .i64 a0_1, .int .i64 a0_2] 23)).alloc (.cells #[.int .i64 0] 3)) 25 (.int .i64 0)) hb)
    clear hb
    gi_wp2_with fail
    refine ⟨trivial, ((callsIn_wide (n := 3)).2 (class_Size.calls _ _ _ _ _ HS.out)).mono ?_⟩
    rintro e w2 ⟨rfl, hb2⟩
    have hz2 : w.heap.size + 1 + 1 < w2.heap.size := by have := hb2.size; omega
    have K2 := Aside0.mk (K1.out.trans (hb2.mono K1.out.size))
    have C2 := Aside0.mk (class_Of.boxed_below B2.out hb2)
    have C3 := Aside0.mk (class_Of.boxed_below B3.out hb2)
    clear hb2 B2 B3 K1 hc hf hz
    gi_wp2_with fail
    have D5 := Aside0.mk (Boxed.new w2 3 (.int .i64 n))
    have D2 := Aside0.mk (C2.out.alloc (.cells #[.int .i64 n] 3))
    have D3 := Aside0.mk (C3.out.alloc (.cells #[.int .i64 n] 3))
    have K3 := Aside0.mk (below_alloc K2.out (.cells #[.int .i64 n] 3))
    have hz3 : w.heap.size + 1 + 1 < (w2.alloc (.cells #[.int .i64 n] 3)).heap.size := by simp; omega
    obtain ⟨g2, hg2⟩ : ∃ g, g = w.heap.size + 1 := ⟨_, rfl⟩
    obtain ⟨g5, hg5⟩ : ∃ g, g = w2.heap.size := ⟨_, rfl⟩
    have G2 := Aside0.mk (show w.heap.size ≤ g2 ∧ g2 < g5 by omega)
    have G3 := Aside0.mk (show g2 + 1 < g5 by omega)
    have G5 := Aside0.mk (show w.heap.size ≤ g5 by omega)
    simp only [World.size_alloc, ← hg2, ← hg5] at D2 D3 D5 ⊢
    clear hg2 hg5
    generalize w2.alloc (.cells #[.int .i64 n] 3) = w3 at D2 D3 D5 K3 hz3 ⊢
    clear C2 C3 K2 hz2
    refine ⟨trivial, (class_Of.all_in w3).mono ?_⟩
    rintro e w4 ⟨rfl, rfl⟩
    gi_wp2_with fail
    refine wpIn_rangeFunc_ownF rfl (by omega) (gf := 51) (lb := #[]) rfl trivial (enters_of Try.func51 (by kernel_rfl) rfl) (class_Of.all_stops 3 w.heap.size (by omega) _) belowK_t (belowK_b K3.out.size) (Below.refl _ _) (fun _ => rfl)
      (fun pre W => (∀ c ∈ pre, class_Of.slot c < n) ∧ Boxed W g2 3 (.int .i64 0) ∧ Boxed W (g2 + 1) 25 (.int .i64 0) ∧ Boxed W g5 3 (.int .i64 n) ∧ Below w.heap.size w W)
      (fun c pre W => c = .ret ∧ ∃ p x, pre = p ++ [x] ∧ (∀ c ∈ p, class_Of.slot c < n) ∧ n ≤ class_Of.slot x ∧ Boxed W g2 3 (.int .i64 x) ∧ Boxed W (g2 + 1) 25 (.int .i64 0) ∧ Below w.heap.size w W)
      ?own ?ownx ?start
      (fun x => { tmps := #[.agg #[.int .i64 a0_0, .int .i64 a0_1, .int .i64 a0_2], .pointer (some ⟨w.heap.size, 0, none⟩), .pointer (some ⟨g2, 0, none⟩), .pointer (some ⟨g2 + 1, 0, none⟩), .int .i64 0, .pointer (some ⟨g5, 0, none⟩), .int .i64 x, .int .i64 (class_Of.slot x), .agg #[.int .i64 a0_0, .int .i64 a0_1, .int .i64 a0_2], .int .i64 0, .int .i64 0, .bool false, undef, .agg #[.int .i64 a0_0, .int .i64 a0_1, .int .i64 a0_2], .int .i64 n, .func (.func 51) #[] #[], .int .i64 x, .int .i64 (class_Of.slot x), undef, undef, undef, undef], defers := [] }) ?assign ?body ?done ?stop
    case own => exact fun s A B row hs hg hr => ⟨hs.1, class_Of.boxed_own hs.2.1 hg hr, class_Of.boxed_own hs.2.2.1 hg hr, class_Of.boxed_own hs.2.2.2.1 hg hr, class_Of.below_own hs.2.2.2.2 hg hr K3.out.size⟩
    case ownx =>
      intro c s A B row hs hg hr
      obtain ⟨hc, p, x, h1, h2, h3, h4, h5, h6⟩ := hs
      exact ⟨hc, p, x, h1, h2, h3, class_Of.boxed_own h4 hg hr, class_Of.boxed_own h5 hg hr, class_Of.below_own h6 hg hr K3.out.size⟩
    case start => exact ⟨by simp, D2.out, D3.out, D5.out, K3.out⟩
    case assign =>
      intro l x W K hK
      gi_wp2_with ((rw [Oper.semAt_eq _ _ _ (fun c h => by cases h)]; go_simp; try go_bits))
      exact hK
    case body =>
      rintro l pre x W ⟨hp, b2, b3, b5, kb⟩ _
      have hc2 := b2.cell
      have hc3 := b3.cell
      have hc5 := b5.cell
      have hf2 := b2.frozen
      have hf3 := b3.frozen
      gi_wp2_with ((rw [Oper.semAt_eq _ _ _ (fun c h => by cases h)]; go_simp; try go_bits))
      · have hx : n ≤ class_Of.slot x := by assumption
        have s2 := b2.set (.int .i64 x)
        have s3 := (class_Of.boxed_set_far b3 g2 (.int .i64 x) (by omega)).set (.int .i64 0)
        have s2' := class_Of.boxed_set_far s2 (g2 + 1) (.int .i64 0) (by omega)
        refine ⟨(KeepsOthers.setCell _ _ _).trans (KeepsOthers.setCell _ _ _), rfl, pre, x, rfl, hp, hx, s2', s3, ?_⟩
        exact (kb.setCell (p := ⟨g2, 0, none⟩) G2.out.1 _).setCell (p := ⟨g2 + 1, 0, none⟩) (Nat.le_succ_of_le G2.out.1) _
      · have hx : class_Of.slot x < n := by assumption
        refine ⟨KeepsOthers.refl _, Below.refl _ _, fun c hc => ?_, b2, b3, b5, kb⟩
        rcases List.mem_append.1 hc with h | h
        · exact hp c h
        · rw [List.mem_singleton.1 h]; exact hx
    case done =>
      rintro D xs W hD rfl ⟨hp, b2, b3, b5, kb⟩ hK
      have hn : n > 1024 := by have := hp 5 (by simp); simp [class_Of.slot] at this; omega
      have hr : class_Of.ofN n = (0, 111) := by unfold class_Of.ofN; rw [if_neg (by omega), if_neg (by omega), if_neg (by omega), if_neg (by omega), if_neg (by omega), if_neg (by omega)]
      have H2 := H.out
      rw [hr] at H2
      obtain ⟨rfl, rfl⟩ : (0 : Int) = r1 ∧ (111 : Int) = r2 := by simpa using H2
      have hc2 := b2.cell
      have hc3 := b3.cell
      have hf2 := b2.frozen
      have hf3 := b3.frozen
      gi_wp2
      have s2 := b2.set (.int .i64 0)
      have s3 := (class_Of.boxed_set_far b3 g2 (.int .i64 0) (by omega)).set (.int .i64 111)
      have s2' := class_Of.boxed_set_far s2 (g2 + 1) (.int .i64 111) (by omega)
      have kb' := (kb.setCell (p := ⟨g2, 0, none⟩) G2.out.1 (.int .i64 0)).setCell (p := ⟨g2 + 1, 0, none⟩) (Nat.le_succ_of_le G2.out.1) (.int .i64 111)
      have hK' := ((KeepsOthers.setCell W ⟨g2, 0, none⟩ (.int .i64 0)).trans (KeepsOthers.setCell _ ⟨g2 + 1, 0, none⟩ (.int .i64 111))).same D _ hK rfl
      refine ⟨by simp, .inl ⟨_, _, rfl, run_takeDeferred hK', ?_⟩⟩
      have e2 := (class_Of.boxed_own s2' (grownBy_putObj' _ D (.deferred none)) (fun r e => by cases e; exact ⟨Nat.le_refl _, _, hK', rfl⟩)).cell
      have e3 := (class_Of.boxed_own s3 (grownBy_putObj' _ D (.deferred none)) (fun r e => by cases e; exact ⟨Nat.le_refl _, _, hK', rfl⟩)).cell
      have kb2 := class_Of.below_own kb' (grownBy_putObj' _ D (.deferred none)) (fun r e => by cases e; exact ⟨Nat.le_refl _, _, hK', rfl⟩) (Nat.le_trans K3.out.size hD)
      refine ⟨.tuple #[.int .i64 0, .int .i64 111], ?_, rfl, kb2⟩
      simp [results, Try.f30, go_sem, e2, e3]
    case stop =>
      rintro D c pre W hD ⟨k, hk, rfl⟩ ⟨rfl, p, x, hpx, hp, hx, b2, b3, kb⟩ hK
      have hkp : k = p.length + 1 := by have := congrArg List.length hpx; simpa using this
      subst hkp
      rw [List.range_succ] at hpx
      obtain ⟨hp1, hx1⟩ := List.append_inj' hpx rfl
      obtain rfl : p.length = x := by simpa using hx1
      have hq : ∀ c, c < p.length → class_Of.slot c < n := fun c hc => hp c (by rw [← hp1]; simpa using hc)
      have hr : class_Of.ofN n = ((p.length : Int), 0) := by
        generalize p.length = m at hq hx hk
        have hm : m = 0 ∨ m = 1 ∨ m = 2 ∨ m = 3 ∨ m = 4 ∨ m = 5 := by omega
        unfold class_Of.ofN
        unfold class_Of.slot at hx hq
        rcases hm with rfl | rfl | rfl | rfl | rfl | rfl
        · rw [if_pos (by simpa using hx)]; rfl
        · have h0 := hq 0 (by omega); simp at h0; rw [if_neg (by omega), if_pos (by simpa using hx)]; rfl
        · have h0 := hq 0 (by omega); have h1 := hq 1 (by omega); simp at h0 h1; rw [if_neg (by omega), if_neg (by omega), if_pos (by simpa using hx)]; rfl
        · have h0 := hq 2 (by omega); simp at h0; rw [if_neg (by omega), if_neg (by omega), if_neg (by omega), if_pos (by simpa using hx)]; rfl
        · have h0 := hq 3 (by omega); simp at h0; rw [if_neg (by omega), if_neg (by omega), if_neg (by omega), if_neg (by omega), if_pos (by simpa using hx)]; rfl
        · have h0 := hq 4 (by omega); simp at h0; rw [if_neg (by omega), if_neg (by omega), if_neg (by omega), if_neg (by omega), if_neg (by omega), if_pos (by simpa using hx)]; rfl
      have H2 := H.out
      rw [hr] at H2
      obtain ⟨rfl, rfl⟩ : (p.length : Int) = r1 ∧ (0 : Int) = r2 := by simpa using H2
      gi_wp2
      refine ⟨by simp, .inl ⟨_, _, rfl, run_takeDeferred hK, ?_⟩⟩
      have e2 := (class_Of.boxed_own b2 (grownBy_putObj' _ D (.deferred none)) (fun r e => by cases e; exact ⟨Nat.le_refl _, _, hK, rfl⟩)).cell
      have e3 := (class_Of.boxed_own b3 (grownBy_putObj' _ D (.deferred none)) (fun r e => by cases e; exact ⟨Nat.le_refl _, _, hK, rfl⟩)).cell
      have kb2 := class_Of.below_own kb (grownBy_putObj' _ D (.deferred none)) (fun r e => by cases e; exact ⟨Nat.le_refl _, _, hK, rfl⟩) (Nat.le_trans K3.out.size hD)
      refine ⟨.tuple #[.int .i64 p.length, .int .i64 0], ?_, rfl, kb2⟩
      simp [results, Try.f30, go_sem, e2, e3]
  · rw [if_neg h0] at h
    obtain ⟨rfl, rfl⟩ : (0 : Int) = r1 ∧ e0 = r2 := by simpa using h
    have hne : (e0 != 0) = true := by rw [bne_iff_ne]; exact h0
    gi_wp2_with fail
    refine ⟨trivial, ((callsIn_wide (n := 3)).2 (class_Check.calls _ _ _ _ _ HC.out)).mono ?_⟩
    rintro e w1 ⟨rfl, hb⟩
    have K1 := (((((Below.refl _ w).alloc (Nat.le_refl _) (.cells #[.int .i64 a0_0, .int .i64 a0_1, .int .i64 a0_2] 23)).alloc (by simp) (.cells #[.int .i64 0] 3)).alloc (by simp; omega) (.cells #[.int .i64 0] 25)).trans (hb.mono (by simp; omega)))
    have B2 := class_Of.boxed_below (class_Of.box_new2 w (.cells #[.int .i64 a0_0, .int .i64 a0_1, .int .i64 a0_2] 23) 3 (.int .i64 0) (.cells #[.int .i64 0] 25)) hb
    have B3 := class_Of.boxed_below (Boxed.new ((w.alloc (.cells #[.int .i64 a0_0, .int .i64 a0_1, .int .i64 a0_2] 23)).alloc (.cells #[.int .i64 0] 3)) 25 (.int .i64 0)) hb
    simp only [World.size_alloc] at B3
    obtain ⟨g2, hg2⟩ : ∃ g, g = w.heap.size + 1 := ⟨_, rfl⟩
    have G2 : w.heap.size ≤ g2 := by omega
    simp only [← hg2] at B2 B3 ⊢
    clear hb hg2
    have c2 := B2.cell
    have c3 := B3.cell
    have f2 := B2.frozen
    have f3 := B3.frozen
    have KK := Aside0.mk K1
    clear K1
    gi_wp2
    have s2 := B2.set (.int .i64 0)
    have s3 := ((class_Of.boxed_set_far B3 g2 (.int .i64 0) (by omega)).set (.int .i64 e0)).cell
    have s2' := (class_Of.boxed_set_far s2 (g2 + 1) (.int .i64 e0) (by omega)).cell
    refine ⟨.tuple #[.int .i64 0, .int .i64 e0], ?_, rfl, (KK.out.setCell (p := ⟨g2, 0, none⟩) G2 _).setCell (p := ⟨g2 + 1, 0, none⟩) (Nat.le_succ_of_le G2) _⟩
    simp [results, Try.f30, go_sem, s2', s3]


end Go.Proofs.Ytckdnkiacnonkaa.PAll
