/- told: the runs that are told, at most so many: its range over the closure that Runs hands back. -/
import Derived.Test.YtifeimbamibkeaaClean2
import Derived.RangeFuncBox
import Derived.RangeFuncCalls
import Derived.RangeFuncFrom
import Derived.RangeFuncMany
import Derived.RangeFuncLeaves
import Derived.Shelf.Abstract
import Derived.OwnWalkIn
import Derived.TacticsInMore
import Derived.LoopNIn
import Derived.LoopIn
import Derived.BigFrameIn
namespace Go.Proofs.Ytifeimbamibkeaa.Pure
open Go.RowKit Go.Proofs.Ytifeimbamibkeaa.PAll Go.Proofs.YtifeimbamibkeaaW.PrintWords Go.Proofs.YtifeimbamibkeaaW.PrintLast Go.Proofs.YtifeimbamibkeaaW.PrintMore
attribute [local go_sem] max2_int min2_int max_two min_two
set_option linter.unusedVariables false
set_option linter.unusedSimpArgs false

def mkS (x : Int × Int) : S42 := ⟨x.1, x.2⟩
/-- The runs of a row's first bits, as the document writes them. -/
def runS (l : List Int) (m : Nat) : List S42 := ((runR l m).map enc).map mkS
def Cells (x : S42) (cs : List Value) : Prop := cs = [.int .i64 x.f0, .int .i64 x.f1]
/-- What has been collected. -/
def Coll (W : World) (base : Nat) (v : Value) (ps : List S42) : Prop := OwnRow Cells 42 2 W base v ps
theorem Coll.own {A B : World} {row : Option Nat} {base N : Nat} {v : Value} {ps : List S42} (h : Coll A base v ps) (hg : A.grownBy B row) (hr : ∀ r, row = some r → N ≤ r ∧ ∃ o : Obj, A.heap[r]? = some o ∧ o.isCells = false) : Coll B base v ps := by
  obtain ⟨inner, ho, hp⟩ := h
  refine ⟨inner, ho.kept hg ?_, hp⟩
  rcases ho.2 with ⟨rfl, _⟩ | ⟨g, cap, cur, rfl, _, hgb, _⟩
  · exact .inl rfl
  · refine .inr fun e' => ?_
    obtain ⟨_, o, ho, hc⟩ := hr g (by simpa [Value.ownBlock] using e'.symm)
    rw [hgb] at ho; cases ho; cases hc
theorem Coll.reads {W : World} {base : Nat} {v : Value} {ps : List S42} (h : Coll W base v ps) : ∃ A c, v = .slice A ps.length c ∧ ps.length ≤ c ∧ Kd.C k42 W A ps.length ps := by
  obtain ⟨A, c, e, hl, hr⟩ := OwnRow.reads (R := k42.K W) (by
    obtain ⟨inner, ho, hp⟩ := h
    exact ⟨inner, ho, hp.imp_ (fun p cs hc => by rw [show cs = _ from hc]; exact k42_mk W p)⟩)
  exact ⟨A, c, e, hl, hr⟩
/-- Runs that are handed back: they read as r, and nothing that was there is another one. -/
def Gives42 (w : World) (r : List S42) (e : Ending) (w' : World) : Prop := ∃ A c, e = .returned (.slice A r.length c) ∧ r.length ≤ c ∧ Kd.C k42 w' A r.length r ∧ Below w.heap.size w w'
theorem nil45 (p q : Value) (W : World) : (binOp .eql 45 (.func (.func 42) #[] #[p, q]) .nilFunc).run Try.prog W = .ok (.bool false) W := by rfl
namespace Told
def I (w : World) (most : Int) (pre : List (Int × Int)) (W : World) : Prop :=
  pre.length ≤ most.toNat ∧ Boxed W w.heap.size 3 (.int .i64 most) ∧ (∃ v, Boxed W (w.heap.size + 1) 37 v ∧ Coll W w.heap.size v (pre.map mkS)) ∧ Below w.heap.size w W
def Ix (w : World) (most : Int) (c : Code) (pre : List (Int × Int)) (W : World) : Prop :=
  c = .exit 0 ∧ ∃ p x, pre = p ++ [x] ∧ p.length = most.toNat ∧ (∃ v, Boxed W (w.heap.size + 1) 37 v ∧ Coll W w.heap.size v (p.map mkS)) ∧ Below w.heap.size w W
end Told
set_option maxRecDepth 100000 in
set_option maxHeartbeats 4000000 in
theorem told_c (w : World) (l : List Int) (kk : Nat) (m : Int) (q0 : Nat) (a0 : Int) (ys : List (Int × Int)) (ha : bits_Next.f kk l m 0 true = some a0) (hgo : bits_Count.go kk l m q0 a0 = some ys) (hyl : ys.length ≤ 8796093022000) (gr gm : Nat) (A : Option Addr) (c : Nat) (br : Boxed w gr 22 (.slice A l.length c)) (bm : Boxed w gm 3 (.int .i64 m)) (hlc : l.length ≤ c)
    (hCC : ∀ W', Kept w W' (fun q => w.heap.size ≤ q) → Kd.C (Kd.int .u8) W' A l.length l) (most : Int) :
    Calls Try.prog 30 #[.func (.func 42) #[] #[.pointer (some ⟨gr, 0, none⟩), .pointer (some ⟨gm, 0, none⟩)], .int .i64 most] w (Gives42 w ((ys.map mkS).take most.toNat)) := by
  have HYL := Aside0.mk (show ys.length ≤ 8796093022208 by omega)
  have HA := Aside0.mk ha
  have HGO := Aside0.mk hgo
  have BR := Aside0.mk br
  have BM := Aside0.mk bm
  have HLC := Aside0.mk hlc
  have HCC := Aside0.mk hCC
  clear hyl ha hgo br bm hlc hCC
  obtain ⟨i0, hi, hz0, hz1, hz2⟩ := info_parts info42
  refine (callsIn_wide (n := 4)).1 ?_
  refine callsIn_of_wp_marks Try.func30 rfl trivial ?_ rfl
  simp only [Try.ntmps30, List.size_toArray, List.length_cons, List.length_nil, Nat.reduceAdd, Nat.reduceSub, Array.replicate_succ, Array.replicate_zero, List.push_toArray, List.append_toArray, List.nil_append, List.cons_append]
  gi_wp2_with fail
  simp only [nil45, Result.andThen]
  gi_wp2_with fail
  have B3 := Aside0.mk ((Boxed.new w 3 (.int .i64 most)).alloc (.cells #[.slice none 0 0] 37))
  have B5' := Boxed.new (w.alloc (.cells #[.int .i64 most] 3)) 37 (.slice none 0 0)
  rw [World.size_alloc] at B5'
  have B5 := Aside0.mk B5'
  have KB := Aside0.mk (below_alloc (below_alloc (Below.refl w.heap.size w) (.cells #[.int .i64 most] 3)) (.cells #[.slice none 0 0] 37))
  have hz3 : ((w.alloc (.cells #[.int .i64 most] 3)).alloc (.cells #[.slice none 0 0] 37)).heap.size = w.heap.size + 2 := by simp
  have HST := Aside0.mk (bits_Count.stops 3 (by omega) kk l m gr gm A c (fun q => w.heap.size ≤ q) ys _ ((BR.out.alloc (.cells #[.int .i64 most] 3)).alloc (.cells #[.slice none 0 0] 37)) (by have := BR.out.lt; omega) ((BM.out.alloc (.cells #[.int .i64 most] 3)).alloc (.cells #[.slice none 0 0] 37)) (by have := BM.out.lt; omega)
    (fun W' hk => HCC.out W' ((Kept.of_below KB.out _).then_ hk (fun _ h => .inl h))) HLC.out a0 q0 HA.out HGO.out)
  clear B5'
  refine wpIn_rangeFunc_ownF rfl (by omega) (gf := 42) (lb := #[.pointer (some ⟨gr, 0, none⟩), .pointer (some ⟨gm, 0, none⟩)]) rfl trivial (enters_of Try.func42 (by kernel_rfl) rfl) HST.out
    (fun h k => h.then_ k (fun _ h => .inl h)) (fun W l o o' hl ho _ _ => Kept.of_grown (grownBy_putObj' W l o') (Kept.refl W _) (fun q e => by cases e; exact .inl (by rw [hz3] at hl; omega))) (Below.refl _ _) (fun _ => rfl)
    (Told.I w most) (Told.Ix w most) ?own ?ownx ?start
    (fun x => { tmps := #[.func (.func 42) #[] #[.pointer (some ⟨gr, 0, none⟩), .pointer (some ⟨gm, 0, none⟩)], .int .i64 most, undef, .pointer (some ⟨w.heap.size, 0, none⟩), .slice none 0 0, .pointer (some ⟨w.heap.size + 1, 0, none⟩), .int .i64 x.1, .int .i64 x.2, .func (.func 42) #[] #[.pointer (some ⟨gr, 0, none⟩), .pointer (some ⟨gm, 0, none⟩)], .bool false, .func (.func 42) #[] #[.pointer (some ⟨gr, 0, none⟩), .pointer (some ⟨gm, 0, none⟩)], .int .i64 x.1, .int .i64 x.2, undef, undef, undef, undef, undef, undef, undef, undef, undef, undef, undef], defers := [] }) ?assign ?body ?done ?stop
  case own =>
    rintro s X Y row ⟨h1, h2, ⟨v, h3, h4⟩, h5⟩ hg hr
    exact ⟨h1, bits_Count.boxed_own h2 hg hr, ⟨v, bits_Count.boxed_own h3 hg hr, h4.own hg hr⟩, bits_Count.below_own h5 hg hr KB.out.size⟩
  case ownx =>
    rintro c s X Y row ⟨h1, p, x, h2, h3, ⟨v, h4, h5⟩, h6⟩ hg hr
    exact ⟨h1, p, x, h2, h3, ⟨v, bits_Count.boxed_own h4 hg hr, h5.own hg hr⟩, bits_Count.below_own h6 hg hr KB.out.size⟩
  case start => exact ⟨Nat.zero_le _, B3.out, ⟨_, B5.out, [], World.ownsRow_nil _ _ _ _, Reps.none _ _⟩, KB.out⟩
  case assign =>
    intro l x W K hK
    gi_wp2_with ((rw [Oper.semAt_eq _ _ _ (fun c h => by cases h)]; go_simp; try go_bits))
    exact hK
  case body =>
    rintro l pre x W ⟨hp, b3, ⟨v, b5, hcoll⟩, kb⟩ hlen
    obtain ⟨Av, cv, rfl, hcv, _⟩ := hcoll.reads
    obtain ⟨inner, hown, hreps⟩ := hcoll
    have hn0 : (pre.map mkS).length = pre.length := List.length_map _
    rw [hn0] at b5 hown
    have hc3 := b3.cell
    have hc5 := b5.cell
    have hf5 := b5.frozen
    have hyl := HYL.out
    have HRP := Aside0.mk hreps
    have HOW := Aside0.mk hown
    have KBX := Aside0.mk kb
    have HB5 := Aside0.mk b5
    have HP := Aside0.mk hp
    clear hcv hreps kb
    by_cases h1 : (pre.length : Int) ≥ most
    · have h1b : decide ((pre.length : Int) ≥ most) = true := decide_eq_true h1
      have hpe : pre.length = most.toNat := by omega
      clear h1
      gi_wp2_with ((rw [Oper.semAt_eq _ _ _ (fun c h => by cases h)]; go_simp; try go_bits))
      exact ⟨KeepsOthers.refl _, rfl, pre, x, rfl, hpe, ⟨_, HB5.out, inner, by rw [hn0]; exact HOW.out, HRP.out⟩, KBX.out⟩
    · have h1b : decide ((pre.length : Int) ≥ most) = false := decide_eq_false h1
      have hpe : pre.length + 1 ≤ most.toNat := by omega
      clear h1 hp
      gi_wp2_with (first
        | (gi_at_builtin; refine wpListIn_append_own _ rfl _ _ 37 rfl w.heap.size 42 i0 (.agg #[(.int .i64 0), (.int .i64 0)]) 2 16 Try.underlying37 hi hz0 hz1 hz2 rfl (by decide) _ _ inner rfl (HOW.out.alloc _) ⟨W.heap.size, 0, none⟩ 1 1 [.int .i64 x.1, .int .i64 x.2] rfl rfl (by simpa using World.news_of_block (cs := #[.int .i64 x.1, .int .i64 x.2]) (t := 42) (fr := (0, 0)) (heap_alloc_new W (.cells #[.int .i64 x.1, .int .i64 x.2] 42))) (by simp [Value.oneCell']) (by simp only [maxLen]; omega) (by omega) (by have := KBX.out.size; simp; omega) ?_; intro v' w1 hown' hgrow _; obtain ⟨g', cap', rfl⟩ := ownsRow_succ hown'; obtain ⟨hv1, hv2, hr2, hk2, hb2⟩ := HB5.out.appended (by decide) HOW.out KBX.out.size (Nat.le_succ _) hown' hgrow; have hc1 := hv1.cell; have hf1 := hv1.frozen)
        | (rw [Oper.semAt_eq _ _ _ (fun c h => by cases h)]; go_simp; try go_bits))
      exact ⟨hk2, ⟨hb2.size, fun i hi hs => hb2.block i (Nat.lt_of_not_le hs)⟩, ⟨by rw [List.length_append]; exact hpe, ((b3.alloc _).kept hgrow (b3.not_row (by decide) HOW.out)).kept (grownBy_setCell' _ _ _) (by simp), ⟨_, hv2, inner ++ [.int .i64 x.1, .int .i64 x.2], by rw [List.map_append, List.length_append, hn0]; exact hr2, by rw [List.map_append]; exact HRP.out.snoc rfl rfl⟩, KBX.out.trans hb2⟩⟩
  case done =>
    rintro D xs W hD rfl ⟨hp, b3, ⟨v, b5, hcoll⟩, kb⟩ hK
    obtain ⟨Av, cv, rfl, hcv, _⟩ := hcoll.reads
    have hc5 := b5.cell
    have hr : (xs.map mkS).take most.toNat = xs.map mkS := by rw [List.take_of_length_le (by rw [List.length_map]; exact hp)]
    clear hcv
    gi_wp2_with fail
    refine ⟨by simp, .inl ⟨_, _, rfl, run_takeDeferred hK, ?_⟩⟩
    have hown := hcoll.own (N := D) (grownBy_putObj' _ D (.deferred none)) (fun r e => by cases e; exact ⟨Nat.le_refl _, _, hK, rfl⟩)
    have kb2 := bits_Count.below_own kb (grownBy_putObj' _ D (.deferred none)) (fun r e => by cases e; exact ⟨Nat.le_refl _, _, hK, rfl⟩) (Nat.le_trans KB.out.size hD)
    obtain ⟨A', c', e', hl', hC'⟩ := hown.reads
    cases e'
    refine ⟨_, results_tmp rfl _ _ _, ?_⟩
    rw [hr]
    exact ⟨_, _, by rw [List.length_map]; rfl, hl', hC', kb2⟩
  case stop =>
    rintro D c' pre W hD ⟨k, hk, rfl⟩ ⟨rfl, p, x, hpx, hpm, ⟨v, b5, hcoll⟩, kb⟩ hK
    obtain ⟨Av, cv, rfl, hcv, _⟩ := hcoll.reads
    have hc5 := b5.cell
    have h2 : min k ys.length = p.length + 1 := by have := congrArg List.length hpx; simpa using this
    have hpe : p = ys.take most.toNat := by
      calc p = (ys.take k).take p.length := by rw [hpx]; simp
        _ = ys.take (min p.length k) := List.take_take
        _ = ys.take most.toNat := by congr 1; omega
    have hr : (ys.map mkS).take most.toNat = p.map mkS := by rw [hpe, List.map_take]
    clear hcv h2 hpx hpe hpm
    gi_wp2_with fail
    refine ⟨by simp, .inl ⟨_, _, rfl, run_takeDeferred hK, ?_⟩⟩
    have hown := hcoll.own (N := D) (grownBy_putObj' _ D (.deferred none)) (fun r e => by cases e; exact ⟨Nat.le_refl _, _, hK, rfl⟩)
    have kb2 := bits_Count.below_own kb (grownBy_putObj' _ D (.deferred none)) (fun r e => by cases e; exact ⟨Nat.le_refl _, _, hK, rfl⟩) (Nat.le_trans KB.out.size hD)
    obtain ⟨A', c', e', hl', hC'⟩ := hown.reads
    cases e'
    refine ⟨_, results_tmp rfl _ _ _, ?_⟩
    rw [hr]
    exact ⟨_, _, by rw [List.length_map]; rfl, hl', hC', kb2⟩
end Go.Proofs.Ytifeimbamibkeaa.Pure
