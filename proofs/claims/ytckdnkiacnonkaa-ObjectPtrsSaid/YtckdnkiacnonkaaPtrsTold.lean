/- ptrs: the pointers that are told, at most so many. -/
import Derived.Test.YtckdnkiacnonkaaPtrsGo
namespace Go.Proofs.Ytckdnkiacnonkaa.Pure
open Go.RowKit Go.Proofs.Ytckdnkiacnonkaa.PAll Go.Proofs.Ytckdnkiacnonkaa.Mem Go.Proofs.YtckdnkiacnonkaaW.PrintWords Go.Proofs.YtckdnkiacnonkaaW.PrintLast Go.Proofs.YtckdnkiacnonkaaW.PrintMore
set_option linter.unusedVariables false
set_option linter.unusedSimpArgs false

def Cell64 (x : Int) (cs : List Value) : Prop := cs = [.int .u64 x]
/-- What has been collected. -/
def Coll (W : World) (base : Nat) (v : Value) (ps : List Int) : Prop := OwnRow Cell64 36 1 W base v ps
theorem Coll.own {A B : World} {row : Option Nat} {base N : Nat} {v : Value} {ps : List Int} (h : Coll A base v ps) (hg : A.grownBy B row) (hr : ∀ r, row = some r → N ≤ r ∧ ∃ o : Obj, A.heap[r]? = some o ∧ o.isCells = false) : Coll B base v ps := by
  obtain ⟨inner, ho, hp⟩ := h
  refine ⟨inner, ho.kept hg ?_, hp⟩
  rcases ho.2 with ⟨rfl, _⟩ | ⟨g, cap, cur, rfl, _, hgb, _⟩
  · exact .inl rfl
  · refine .inr fun e' => ?_
    obtain ⟨_, o, ho, hc⟩ := hr g (by simpa [Value.ownBlock] using e'.symm)
    rw [hgb] at ho; cases ho; cases hc
theorem Coll.reads {W : World} {base : Nat} {v : Value} {ps : List Int} (h : Coll W base v ps) : ∃ A c, v = .slice A ps.length c ∧ ps.length ≤ c ∧ Kd.C (Kd.int .u64) W A ps.length ps := by
  obtain ⟨A, c, e, hl, hr⟩ := OwnRow.reads (R := (Kd.int .u64).K W) (by
    obtain ⟨inner, ho, hp⟩ := h
    exact ⟨inner, ho, hp.imp_ (fun p cs hc => hc)⟩)
  exact ⟨A, c, e, hl, hr⟩
theorem Coll.set {W : World} {base b : Nat} {t : TypeId} {v u : Value} {ps : List Int} (h : Coll W base v ps) (hb : Boxed W b t u) (ht : t ≠ 36) (u' : Value) : Coll (W.setCell ⟨b, 0, none⟩ u') base v ps := by
  obtain ⟨inner, ho, hp⟩ := h
  exact ⟨inner, ho.kept (grownBy_setCell' W b u') (.inr (hb.not_row ht ho).symm), hp⟩
/-- The two results, told out of their boxes. -/
theorem results24_run (tmps : Array Value) (W : World) (b : Nat) (v : Value) (h4 : tmps.getD 4 undef = .pointer (some ⟨b + 1, 0, none⟩)) (h5 : tmps.getD 5 undef = .pointer (some ⟨b + 1 + 1, 0, none⟩)) (c4 : W.cell? ⟨b + 1, 0, none⟩ = some v) (c5 : W.cell? ⟨b + 1 + 1, 0, none⟩ = some (.bool true)) (hv : ∃ A n c, v = .slice A n c) :
    (results Try.f24 tmps).run Try.prog W = .ok (.tuple #[v, .bool true]) W := by
  obtain ⟨A, n, c, rfl⟩ := hv
  have e : Try.f24.results = #[ResultVar.cell 4 40, ResultVar.cell 5 4] := rfl
  rw [Array.getD_eq_getD_getElem?] at h4 h5
  simp [results, e, h4, h5, c4, c5, go_sem]
theorem nil63 (p : Value) (W : World) : (binOp .eql 63 (.func (.func 50) #[] #[p]) .nilFunc).run Try.prog W = .ok (.bool false) W := by rfl
/-- What ptrs hands back. -/
def Told (w : World) (r : List Int) (e : Ending) (w' : World) : Prop := ∃ A c, e = .returned (.tuple #[.slice A r.length c, .bool true]) ∧ r.length ≤ c ∧ Kd.C (Kd.int .u64) w' A r.length r ∧ Below w.heap.size w w'
namespace PT
/-- The boxes of ptrs. -/
def Bx (W : World) (b : Nat) (most : Int) : Prop := Boxed W b 3 (.int .i64 most) ∧ Boxed W (b + 1) 40 (.slice none 0 0) ∧ Boxed W (b + 1 + 1) 4 (.bool false)
def I (w : World) (b7 : Nat) (most : Int) (pre : List (Int × Int)) (W : World) : Prop :=
  pre.length ≤ most.toNat ∧ Bx W w.heap.size most ∧ (∃ v, Boxed W b7 40 v ∧ Coll W b7 v (pre.map (·.2))) ∧ Below w.heap.size w W
def Ix (w : World) (b7 : Nat) (most : Int) (c : Code) (pre : List (Int × Int)) (W : World) : Prop :=
  (c = .exit 0 ∧ ∃ p x, pre = p ++ [x] ∧ p.length = most.toNat ∧ Bx W w.heap.size most ∧ (∃ v, Boxed W b7 40 v ∧ Coll W b7 v (p.map (·.2))) ∧ Below w.heap.size w W) ∨
  (c = .ret ∧ ∃ p x, pre = p ++ [x] ∧ x.1 ≠ (p.length : Int))
end PT
theorem Bx_own {A B : World} {row : Option Nat} {b N : Nat} {most : Int} (h : PT.Bx A b most) (hg : A.grownBy B row) (hr : ∀ r, row = some r → N ≤ r ∧ ∃ o : Obj, A.heap[r]? = some o ∧ o.isCells = false) : PT.Bx B b most :=
  ⟨class_Of.boxed_own h.1 hg hr, class_Of.boxed_own h.2.1 hg hr, class_Of.boxed_own h.2.2 hg hr⟩
set_option maxRecDepth 100000 in
set_option maxHeartbeats 4000000 in
theorem ptrs_c {A : Option Addr} {c : Nat} {l : List Int} {w : World} (hC : Kd.C (Kd.int .u8) w A l.length l) (hc : l.length ≤ c) (hb : Bytes l) (hl : l.length ≤ 140737488351232) (most : Int) :
    Calls Try.prog 24 #[.slice A l.length c, .int .i64 most] w (Told w ((pL l).take most.toNat)) := by
  obtain ⟨L, hL⟩ : ∃ L, L = pL l := ⟨_, rfl⟩
  have hle : L.length ≤ 126 := by rw [hL, pL_length]; exact np_le l
  have P1 := Aside0.mk (fun (w : World) (h : Kd.C (Kd.int .u8) w A l.length l) => Ptrs_c h hc hb hl)
  rw [← hL] at P1 ⊢
  have HLE := Aside0.mk hle
  have HC := Aside0.mk hC
  clear hC hc hb hl hle hL
  obtain ⟨i0, hi, hz0, hz1, hz2⟩ := info_parts info36_
  refine (callsIn_wide (n := 4)).1 ?_
  refine callsIn_of_wp_marks Try.func24 rfl trivial ?_ rfl
  simp only [Try.ntmps24, List.size_toArray, List.length_cons, List.length_nil, Nat.reduceAdd, Nat.reduceSub, Array.replicate_succ, Array.replicate_zero, List.push_toArray, List.append_toArray, List.nil_append, List.cons_append]
  gi_wp2_with fail
  refine ⟨trivial, ((callsIn_wide (n := 4 - 1)).2 (P1.out _ (Kd.C_alloc (Kd.C_alloc (Kd.C_alloc HC.out _) _) _))).mono ?_⟩
  rintro e w1 ⟨gb, g, rfl, hbx, hrw, hg1, hg2, hbl⟩
  have hsz0 : (((w.alloc (.cells #[.int .i64 most] 3)).alloc (.cells #[.slice none 0 0] 40)).alloc (.cells #[.bool false] 4)).heap.size = w.heap.size + 3 := by simp
  have hB0 : PT.Bx (((w.alloc (.cells #[.int .i64 most] 3)).alloc (.cells #[.slice none 0 0] 40)).alloc (.cells #[.bool false] 4)) w.heap.size most := by
    have b4 := (Boxed.new (w.alloc (.cells #[.int .i64 most] 3)) 40 (.slice none 0 0)).alloc (.cells #[.bool false] 4)
    have b5 := Boxed.new ((w.alloc (.cells #[.int .i64 most] 3)).alloc (.cells #[.slice none 0 0] 40)) 4 (.bool false)
    rw [World.size_alloc] at b4
    rw [World.size_alloc, World.size_alloc] at b5
    exact ⟨((Boxed.new w 3 (.int .i64 most)).alloc _).alloc _, b4, b5⟩
  have hB1 : PT.Bx w1 w.heap.size most := ⟨(hbl.block _ hB0.1.lt).trans hB0.1, (hbl.block _ hB0.2.1.lt).trans hB0.2.1, (hbl.block _ hB0.2.2.lt).trans hB0.2.2⟩
  have hlt1 : w.heap.size + 3 ≤ w1.heap.size := by have := hbl.size; rw [hsz0] at this; exact this
  have hK1 : Below w.heap.size w w1 := (((Below.refl _ w).alloc (Nat.le_refl _) _).alloc (by simp) _).alloc (by simp; omega) _ |>.trans (hbl.mono (by simp; omega))
  have K1 := Aside0.mk hK1
  have B1 := Aside0.mk hB1
  have LT1 := Aside0.mk hlt1
  have BX := Aside0.mk hbx
  have RW := Aside0.mk hrw
  clear hsz0 hB0 hB1 hlt1 hK1 hbx hrw hg1 hg2 hbl P1 HC
  gi_wp2_with fail
  simp only [nil63, Result.andThen]
  gi_wp2_with fail
  have HST := Aside0.mk (go_stops 3 (by omega) L gb g (fun q => w1.heap.size ≤ q) (w1.alloc (.cells #[.slice none 0 0] 40)) (by have := HLE.out; omega) (BX.out.alloc _) (by have := BX.out.lt; omega) ((Below.heap_alloc _ _ _ (blk_lt RW.out)).trans RW.out) (by have := blk_lt RW.out; omega))
  have hz1' : (w1.alloc (.cells #[.slice none 0 0] 40)).heap.size = w1.heap.size + 1 := by simp
  have KS := Aside0.mk (K1.out.alloc K1.out.size (.cells #[.slice none 0 0] 40))
  have B7 := Aside0.mk (Boxed.new w1 40 (.slice none 0 0))
  refine wpIn_rangeFunc_ownF rfl (by omega) (gf := 50) (lb := #[.pointer (some ⟨gb, 0, none⟩)]) rfl trivial (enters_of Try.func50 (by kernel_rfl) rfl) HST.out
    (fun h k => h.then_ k (fun _ h => .inl h)) (fun W l o o' hl ho _ _ => Kept.of_grown (grownBy_putObj' W l o') (Kept.refl W _) (fun q e => by cases e; exact .inl (by rw [hz1'] at hl; omega))) (Below.refl _ _) (fun _ => rfl)
    (PT.I w w1.heap.size most) (PT.Ix w w1.heap.size most) ?own ?ownx ?start
    (fun x => { tmps := #[.slice A l.length c, .int .i64 most, undef, .pointer (some ⟨w.heap.size, 0, none⟩), .pointer (some ⟨w.heap.size + 1, 0, none⟩), .pointer (some ⟨w.heap.size + 1 + 1, 0, none⟩), .func (.func 50) #[] #[.pointer (some ⟨gb, 0, none⟩)], .pointer (some ⟨w1.heap.size, 0, none⟩), .int .i64 x.1, .int .u64 x.2, .slice A l.length c, .func (.func 50) #[] #[.pointer (some ⟨gb, 0, none⟩)], .func (.func 50) #[] #[.pointer (some ⟨gb, 0, none⟩)], .bool false, .func (.func 50) #[] #[.pointer (some ⟨gb, 0, none⟩)], .int .i64 x.1, .int .u64 x.2, undef, undef, undef, undef, undef, undef, undef, undef, undef, undef, undef, undef, undef], defers := [] }) ?assign ?body ?done ?stop
  case own =>
    rintro s X Y row ⟨h1, h2, ⟨v, h3, h4⟩, h5⟩ hg hr
    exact ⟨h1, Bx_own h2 hg hr, ⟨v, class_Of.boxed_own h3 hg hr, h4.own hg hr⟩, class_Of.below_own h5 hg hr KS.out.size⟩
  case ownx =>
    rintro c s X Y row (⟨h1, p, x, h2, h3, h2', ⟨v, h4, h5⟩, h6⟩ | h1) hg hr
    · exact .inl ⟨h1, p, x, h2, h3, Bx_own h2' hg hr, ⟨v, class_Of.boxed_own h4 hg hr, h5.own hg hr⟩, class_Of.below_own h6 hg hr KS.out.size⟩
    · exact .inr h1
  case start => exact ⟨Nat.zero_le _, ⟨B1.out.1.alloc _, B1.out.2.1.alloc _, B1.out.2.2.alloc _⟩, ⟨_, B7.out, [], World.ownsRow_nil _ _ _ _, Reps.none _ _⟩, KS.out⟩
  case assign =>
    intro l x W K hK
    gi_wp2_with ((rw [Oper.semAt_eq _ _ _ (fun c h => by cases h)]; go_simp; try go_bits))
    exact hK
  case body =>
    rintro l pre x W ⟨hp, bb, ⟨v, b7, hcoll⟩, kb⟩ hlen
    obtain ⟨Av, cv, rfl, hcv, _⟩ := hcoll.reads
    obtain ⟨inner, hown, hreps⟩ := hcoll
    have hn0 : (pre.map (·.2)).length = pre.length := List.length_map _
    rw [hn0] at b7 hown
    have hc3 := bb.1.cell
    have hc4 := bb.2.1.cell
    have hf4 := bb.2.1.frozen
    have hc5 := bb.2.2.cell
    have hf5 := bb.2.2.frozen
    have hc7 := b7.cell
    have hf7 := b7.frozen
    have hpl : pre.length ≤ 126 := by have := HLE.out; omega
    have HRP := Aside0.mk hreps
    have HOW := Aside0.mk hown
    have KBX := Aside0.mk kb
    have HB7 := Aside0.mk b7
    have HBB := Aside0.mk bb
    have HP := Aside0.mk hp
    clear hcv hreps kb bb hlen
    by_cases h1 : (pre.length : Int) ≥ most
    · have h1b : decide ((pre.length : Int) ≥ most) = true := decide_eq_true h1
      have hpe : pre.length = most.toNat := by omega
      clear h1
      gi_wp2_with ((rw [Oper.semAt_eq _ _ _ (fun c h => by cases h)]; go_simp; try go_bits))
      exact ⟨KeepsOthers.refl _, .inl ⟨rfl, pre, x, rfl, hpe, HBB.out, ⟨_, HB7.out, inner, by rw [hn0]; exact HOW.out, HRP.out⟩, KBX.out⟩⟩
    have h1b : decide ((pre.length : Int) ≥ most) = false := decide_eq_false h1
    have hpe : pre.length + 1 ≤ most.toNat := by omega
    clear h1 hp
    by_cases h2 : x.1 = (pre.length : Int)
    case neg =>
      have h2b : (x.1 != (pre.length : Int)) = true := by simpa using h2
      have h2c : (x.1 == (pre.length : Int)) = false := by simpa using h2
      have H2 := Aside0.mk h2
      clear h2
      have hne : w.heap.size + 1 + 1 ≠ w.heap.size + 1 := by omega
      gi_wp2_with ((rw [Oper.semAt_eq _ _ _ (fun c h => by cases h)]; go_simp; try go_bits))
      exact ⟨(KeepsOthers.setCell _ _ _).trans (KeepsOthers.setCell _ _ _), .inr ⟨rfl, pre, x, rfl, H2.out⟩⟩
    have h2b : (x.1 != (pre.length : Int)) = false := by simpa using h2
    have h2c : (x.1 == (pre.length : Int)) = true := by simpa using h2
    have H2 := Aside0.mk h2
    clear h2
    obtain ⟨x1, x2⟩ := x
    simp only at h2b h2c H2
    have HNN := Aside0.mk hn0
    clear hn0 hc4 hf4 hc5 hf5
    gi_wp2_with (first
      | (gi_at_builtin; refine wpListIn_append_own _ rfl _ _ 40 rfl w1.heap.size 36 i0 (.int .u64 0) 1 8 Try.underlying40 hi hz0 hz1 hz2 rfl (by decide) _ _ inner rfl (HOW.out.alloc _) ⟨W.heap.size, 0, none⟩ 1 1 [.int .u64 x2] rfl rfl (by simpa using World.news_of_block (cs := #[.int .u64 x2]) (t := 36) (fr := (0, 0)) (heap_alloc_new W (.cells #[.int .u64 x2] 36))) (by simp [Value.oneCell']) (by simp only [maxLen]; omega) (by omega) (by have := HB7.out.lt; simp; omega) ?_; intro v' w2 hown' hgrow _; obtain ⟨g', cap', rfl⟩ := ownsRow_succ hown'; obtain ⟨hv1, hv2, hr2, hk2, hb2⟩ := HB7.out.appended (by decide) HOW.out (Nat.le_of_lt HB7.out.lt) (Nat.le_refl _) hown' hgrow; have hc1 := hv1.cell; have hf1 := hv1.frozen)
      | (rw [Oper.semAt_eq _ _ _ (fun c h => by cases h)]; go_simp; try go_bits))
    have hb3 := LT1.out
    exact ⟨hk2, ⟨hb2.size, fun i hi hs => hb2.block i (Nat.lt_of_not_le hs)⟩, ⟨by rw [List.length_append]; exact hpe, ⟨(hb2.block _ (by omega)).trans HBB.out.1, (hb2.block _ (by omega)).trans HBB.out.2.1, (hb2.block _ (by omega)).trans HBB.out.2.2⟩, ⟨_, hv2, inner ++ [.int .u64 x2], by rw [List.map_append, List.length_append, HNN.out]; exact hr2, by rw [List.map_append]; exact HRP.out.snoc rfl rfl⟩, KBX.out.trans (hb2.mono (by omega))⟩⟩
  case done =>
    rintro D xs W hD rfl ⟨hp, bb, ⟨v, b7, hcoll⟩, kb⟩ hK
    obtain ⟨Av, cv, rfl, hcv, _⟩ := hcoll.reads
    have hc4 := bb.2.1.cell
    have hf4 := bb.2.1.frozen
    have hc5 := bb.2.2.cell
    have hf5 := bb.2.2.frozen
    have hc7 := b7.cell
    have hne : w.heap.size + 1 + 1 ≠ w.heap.size + 1 := by omega
    have hr : L.take most.toNat = L := by rw [List.take_of_length_le]; rw [pairs_length] at hp; exact hp
    have BBB := Aside0.mk bb
    have CO := Aside0.mk hcoll
    have KB := Aside0.mk kb
    have HKK := Aside0.mk hK
    have HDD := Aside0.mk hD
    have HRR := Aside0.mk hr
    clear hcv hcoll bb kb hK hr hp
    gi_wp2_with fail
    have lt1 := LT1.out
    have hd2 := HDD.out
    rw [hz1'] at hd2
    have hK2 : ((W.setCell ⟨w.heap.size + 1, 0, none⟩ (.slice Av (pairs L).length cv)).setCell ⟨w.heap.size + 1 + 1, 0, none⟩ (.bool true)).heap[D]? = some (.deferred (some [])) := by
      rw [Below.heap_setCell _ _ _ _ (by simp; omega), Below.heap_setCell _ _ _ _ (by simp; omega)]
      exact HKK.out
    have b4 := (BBB.out.2.1.set (.slice Av (pairs L).length cv)).kept (grownBy_setCell' _ (w.heap.size + 1 + 1) (.bool true)) (by simp)
    have b5 := (class_Of.boxed_set_far BBB.out.2.2 (w.heap.size + 1) (.slice Av (pairs L).length cv) (by omega)).set (.bool true)
    have co := (CO.out.set BBB.out.2.1 (by decide) (.slice Av (pairs L).length cv)).set (class_Of.boxed_set_far BBB.out.2.2 (w.heap.size + 1) (.slice Av (pairs L).length cv) (by omega)) (by decide) (.bool true)
    have kb := (KB.out.setCell (p := ⟨w.heap.size + 1, 0, none⟩) (by simp) (.slice Av (pairs L).length cv)).setCell (p := ⟨w.heap.size + 1 + 1, 0, none⟩) (by simp; omega) (.bool true)
    refine ⟨by simp, .inl ⟨_, _, rfl, run_takeDeferred hK2, ?_⟩⟩
    have hgo : ∀ r, some D = some r → D ≤ r ∧ ∃ o : Obj, ((W.setCell ⟨w.heap.size + 1, 0, none⟩ (.slice Av (pairs L).length cv)).setCell ⟨w.heap.size + 1 + 1, 0, none⟩ (.bool true)).heap[r]? = some o ∧ o.isCells = false := fun r e => by cases e; exact ⟨Nat.le_refl _, _, hK2, rfl⟩
    have b4' := class_Of.boxed_own (N := D) b4 (grownBy_putObj' _ D (.deferred none)) hgo
    have b5' := class_Of.boxed_own (N := D) b5 (grownBy_putObj' _ D (.deferred none)) hgo
    have co' := co.own (N := D) (grownBy_putObj' _ D (.deferred none)) hgo
    have kb' := class_Of.below_own (N := D) kb (grownBy_putObj' _ D (.deferred none)) hgo (by omega)
    refine ⟨_, results24_run _ _ w.heap.size _ rfl rfl b4'.cell b5'.cell ⟨_, _, _, rfl⟩, ?_⟩
    obtain ⟨A', c', e', hl', hC'⟩ := co'.reads
    rw [HRR.out]
    rw [pairs_snd] at e' hl' hC'
    exact ⟨A', c', by rw [← e', pairs_length], hl', hC', kb'⟩
  case stop =>
    rintro D c' pre W hD ⟨k, hk, rfl⟩ (⟨rfl, p, x, hpx, hpm, bb, ⟨v, b7, hcoll⟩, kb⟩ | ⟨rfl, p, x, hpx, hx⟩) hK
    case inr =>
      exfalso
      have h1 := congrArg List.length hpx
      rw [List.length_take, pairs_length, List.length_append, List.length_singleton] at h1
      have h2 : ((pairs L).take k)[p.length]? = some x := by rw [hpx]; simp
      rw [List.getElem?_take, if_pos (by omega), pairs_get L p.length (by omega)] at h2
      injection h2 with h2
      rw [← h2] at hx
      exact hx rfl
    have hpe : p = (pairs L).take most.toNat := by
      have h1 := congrArg List.length hpx
      rw [List.length_take, pairs_length, List.length_append, List.length_singleton] at h1
      calc p = ((pairs L).take k).take p.length := by rw [hpx]; simp
        _ = (pairs L).take (min p.length k) := List.take_take
        _ = (pairs L).take most.toNat := by congr 1; omega
    have hps : p.map (·.2) = L.take most.toNat := by rw [hpe, List.map_take, pairs_snd]
    have HPS := Aside0.mk hps
    clear hps hpe hpx hpm hk
    obtain ⟨Av, cv, rfl, hcv, _⟩ := hcoll.reads
    have hc4 := bb.2.1.cell
    have hf4 := bb.2.1.frozen
    have hc5 := bb.2.2.cell
    have hf5 := bb.2.2.frozen
    have hc7 := b7.cell
    have hne : w.heap.size + 1 + 1 ≠ w.heap.size + 1 := by omega
    have BBB := Aside0.mk bb
    have CO := Aside0.mk hcoll
    have KB := Aside0.mk kb
    have HKK := Aside0.mk hK
    have HDD := Aside0.mk hD
    clear hcv hcoll bb kb hK
    gi_wp2_with fail
    have lt1 := LT1.out
    have hd2 := HDD.out
    rw [hz1'] at hd2
    have hK2 : ((W.setCell ⟨w.heap.size + 1, 0, none⟩ (.slice Av p.length cv)).setCell ⟨w.heap.size + 1 + 1, 0, none⟩ (.bool true)).heap[D]? = some (.deferred (some [])) := by
      rw [Below.heap_setCell _ _ _ _ (by simp; omega), Below.heap_setCell _ _ _ _ (by simp; omega)]
      exact HKK.out
    have b4 := (BBB.out.2.1.set (.slice Av p.length cv)).kept (grownBy_setCell' _ (w.heap.size + 1 + 1) (.bool true)) (by simp)
    have b5 := (class_Of.boxed_set_far BBB.out.2.2 (w.heap.size + 1) (.slice Av p.length cv) (by omega)).set (.bool true)
    have co := (CO.out.set BBB.out.2.1 (by decide) (.slice Av p.length cv)).set (class_Of.boxed_set_far BBB.out.2.2 (w.heap.size + 1) (.slice Av p.length cv) (by omega)) (by decide) (.bool true)
    have kb := (KB.out.setCell (p := ⟨w.heap.size + 1, 0, none⟩) (by simp) (.slice Av p.length cv)).setCell (p := ⟨w.heap.size + 1 + 1, 0, none⟩) (by simp; omega) (.bool true)
    refine ⟨by simp, .inl ⟨_, _, rfl, run_takeDeferred hK2, ?_⟩⟩
    have hgo : ∀ r, some D = some r → D ≤ r ∧ ∃ o : Obj, ((W.setCell ⟨w.heap.size + 1, 0, none⟩ (.slice Av p.length cv)).setCell ⟨w.heap.size + 1 + 1, 0, none⟩ (.bool true)).heap[r]? = some o ∧ o.isCells = false := fun r e => by cases e; exact ⟨Nat.le_refl _, _, hK2, rfl⟩
    have b4' := class_Of.boxed_own (N := D) b4 (grownBy_putObj' _ D (.deferred none)) hgo
    have b5' := class_Of.boxed_own (N := D) b5 (grownBy_putObj' _ D (.deferred none)) hgo
    have co' := co.own (N := D) (grownBy_putObj' _ D (.deferred none)) hgo
    have kb' := class_Of.below_own (N := D) kb (grownBy_putObj' _ D (.deferred none)) hgo (by omega)
    refine ⟨_, results24_run _ _ w.heap.size _ rfl rfl b4'.cell b5'.cell ⟨_, _, _, rfl⟩, ?_⟩
    obtain ⟨A', c', e', hl', hC'⟩ := co'.reads
    have hpl : p.length = (L.take most.toNat).length := by rw [← HPS.out, List.length_map]
    rw [HPS.out] at e' hl' hC'
    exact ⟨A', c', by rw [← e', hpl], hl', hC', kb'⟩
end Go.Proofs.Ytckdnkiacnonkaa.Pure
