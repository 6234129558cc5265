/- The pointers that are told, and what a new object or a part that is set reads as. -/
import Derived.Test.YtckdnkiacnonkaaObjA
import Derived.Test.YtckdnkiacnonkaaPAlly12
import Derived.RangeFuncBox
import Derived.RangeFuncCalls
import Derived.RangeFuncFrom
import Derived.RangeFuncMany
import Derived.RangeFuncLeaves
import Derived.Shelf.Abstract
import Derived.OwnWalkIn
import Derived.TacticsInMore
import Derived.LoopNIn
import Derived.LoopIn
import Derived.BigFrameIn
import Derived.Deep.RegionWith
namespace Go.Proofs.Ytckdnkiacnonkaa.Pure
open Go.RowKit Go.Proofs.Ytckdnkiacnonkaa.PAll Go.Proofs.Ytckdnkiacnonkaa.Mem Go.Proofs.YtckdnkiacnonkaaW.PrintWords Go.Proofs.YtckdnkiacnonkaaW.PrintLast Go.Proofs.YtckdnkiacnonkaaW.PrintMore
set_option linter.unusedVariables false
set_option linter.unusedSimpArgs false

/-- How many pointers there are, of any bytes. -/
def np (l : List Int) : Nat := if IsObj l then pn l else 0
/-- An object's pointer. -/
def pw (l : List Int) (i : Nat) : Int := (getL l (16 + 8 * i) 8 : Nat)
def pL (l : List Int) : List Int := (List.range (np l)).map (pw l)
theorem pL_length (l : List Int) : (pL l).length = np l := by simp [pL]
theorem pL_get (l : List Int) (i : Nat) (h : i < (pL l).length) : (pL l)[i] = pw l i := by simp [pL]
theorem np_le (l : List Int) : np l ≤ 126 := by
  unfold np
  split
  · rename_i h
    exact h.pn.2.2.2
  · omega
theorem PT_pw (l : List Int) (i : Nat) (h : i < np l) : PT l (i : Int) = (pw l i, 0) := by
  unfold np at h
  unfold PT
  split at h
  · rename_i ho
    rw [if_pos ho, if_neg (by omega), Int.toNat_natCast]
    rfl
  · omega
/-- What a parse says of the pointers. -/
theorem parse_np (l : List Int) (hb : Bytes l) (hl : l.length ≤ 140737488351232) : ∃ a d g e, object_Parse.f 1200 l = some (a, ((np l : Nat) : Int), d, g, e) := by
  by_cases h : IsObj l
  · have h1 := (parse_yes 1200 l hb hl (by decide) h).1
    refine ⟨pa l, pc l, pg l, 0, h1.trans ?_⟩
    unfold np
    rw [if_pos h, ← h.pn.1]
  · have h1 := (parse_no 1200 l hb hl (by decide) h).1
    refine ⟨0, 0, 0, 130, h1.trans ?_⟩
    unfold np
    rw [if_neg h]
    rfl
theorem info36_ : (Try.prog.info? 36).map (fun i => (i.zero, i.size, i.bytes)) = some (some (.int .u64 0), 1, 8) := by kernel_rfl
/-- The row while it is filled. -/
def part (L : List Int) (k : Nat) : List Int := L.take k ++ List.replicate (L.length - k) 0
theorem part_zero (L : List Int) : part L 0 = List.replicate L.length 0 := by simp [part]
theorem part_all (L : List Int) : part L L.length = L := by simp [part]
theorem part_length (L : List Int) (k : Nat) (h : k ≤ L.length) : (part L k).length = L.length := by simp [part]; omega
theorem part_set (L : List Int) (k : Nat) (h : k < L.length) : (part L k).set k L[k] = part L (k + 1) := by
  unfold part
  have h1 : (L.take k).length = k := by rw [List.length_take]; omega
  rw [List.set_append_right _ _ (by omega), h1, Nat.sub_self, show L.length - k = (L.length - (k + 1)) + 1 by omega, List.replicate_succ, List.set_cons_zero, List.take_succ_eq_append_getElem h, List.append_assoc]
  rfl
theorem encs_set (L : List Int) (k : Nat) (x : Int) : ((encs (Value.int .u64) L).toArray).setIfInBounds k (.int .u64 x) = (encs (Value.int .u64) (L.set k x)).toArray := by
  simp [encs]
/-- What Ptrs hands back. -/
def PtrsPost (w : World) (L : List Int) (e : Ending) (w' : World) : Prop :=
  ∃ gb g, e = .returned (.func (.func 50) #[] #[.pointer (some ⟨gb, 0, none⟩)]) ∧ Boxed w' gb 40 (.slice (some ⟨g, 0, none⟩) L.length L.length) ∧ w'.heap[g]? = some (.cells (encs (Value.int .u64) L).toArray 36 (0, 0)) ∧ w.heap.size ≤ g ∧ w.heap.size ≤ gb ∧ Below w.heap.size w w'
section
variable {A : Option Addr} {c : Nat} {l : List Int} {w : World} (hC : Kd.C (Kd.int .u8) w A l.length l) (hc : l.length ≤ c) (hb : Bytes l) (hl : l.length ≤ 140737488351232)
include hC hc hb hl
set_option maxRecDepth 100000 in
set_option maxHeartbeats 4000000 in
theorem Ptrs_c : Calls Try.prog 42 #[.slice A l.length c] w (PtrsPost w (pL l)) := by
  obtain ⟨a, d, g0, e0, hp⟩ := parse_np l hb hl
  obtain ⟨L, hL⟩ : ∃ L, L = pL l := ⟨_, rfl⟩
  have hn : np l = L.length := by rw [hL, pL_length]
  have hle := np_le l
  rw [hn] at hp hle
  have HPT := Aside0.mk (show ∀ (i : Nat) (h : i < L.length), PT l (i : Int) = (L[i], 0) by
    intro i h
    subst hL
    rw [pL_get, PT_pw l i (by omega)])
  rw [← hL]
  have F := Aside0.mk hp
  have HC := Aside0.mk hC
  have HD := Aside0.mk hc
  have HB := Aside0.mk hb
  have HL := Aside0.mk hl
  have hmk := print_make (P := Try.prog) 40 36 .u64 8 Try.underlying40 info36_ (by decide) L.length (by omega)
  have HLE := Aside0.mk hle
  clear hC hc hb hl hp hL hn
  go_enter Try.func42, Try.ntmps42
  go_wp2_with fail
  refine (object_Parse.calls 1200 A c l _ _ _ _ _ w HC.out HD.out F.out).mono ?_
  rintro e w1 ⟨rfl, hb1⟩
  have K1 := Aside0.mk hb1
  have C1 := Aside0.mk (Kd.C_below HC.out hb1)
  clear hb1
  go_wp2_with fail
  have hlo : (L.length : Int) ≤ 9223372036854775807 := by have := HLE.out; omega
  have hbx : Boxed (((w1.alloc (.cells #[.int .i64 a, .int .i64 (L.length : Int), .int .i64 d] 23)).alloc (.cells (madeCells #[.int .u64 0] L.length) 36)).alloc (.cells #[.slice (some ⟨w1.heap.size + 1, 0, none⟩) L.length L.length] 40)) (w1.heap.size + 1 + 1) 40 (.slice (some ⟨w1.heap.size + 1, 0, none⟩) L.length L.length) := by
    have := Boxed.new ((w1.alloc (.cells #[.int .i64 a, .int .i64 (L.length : Int), .int .i64 d] 23)).alloc (.cells (madeCells #[.int .u64 0] L.length) 36)) 40 (.slice (some ⟨w1.heap.size + 1, 0, none⟩) L.length L.length)
    simpa using this
  have hrow : (((w1.alloc (.cells #[.int .i64 a, .int .i64 (L.length : Int), .int .i64 d] 23)).alloc (.cells (madeCells #[.int .u64 0] L.length) 36)).alloc (.cells #[.slice (some ⟨w1.heap.size + 1, 0, none⟩) L.length L.length] 40)).heap[w1.heap.size + 1]? = some (.cells (encs (Value.int .u64) (part L 0)).toArray 36 (0, 0)) := by
    rw [Below.heap_alloc _ _ _ (by simp)]
    have := World.alloc_heap_new (w1.alloc (.cells #[.int .i64 a, .int .i64 (L.length : Int), .int .i64 d] 23)) (.cells (madeCells #[.int .u64 0] L.length) 36)
    rw [World.size_alloc] at this
    rw [this, part_zero]
    congr 2
    apply Array.ext
    · simp [encs, size_madeCells]
    · intro i h1 h2
      simp [encs, madeCells, Nat.mod_one]
  have hbl := ((K1.out.alloc K1.out.size (.cells #[.int .i64 a, .int .i64 (L.length : Int), .int .i64 d] 23)).alloc (Nat.le_trans K1.out.size (by simp)) (.cells (madeCells #[.int .u64 0] L.length) 36)).alloc (Nat.le_trans K1.out.size (by simp; omega)) (.cells #[.slice (some ⟨w1.heap.size + 1, 0, none⟩) L.length L.length] 40)
  have BX := Aside0.mk hbx
  have RW := Aside0.mk hrow
  have BL := Aside0.mk hbl
  clear hbx hrow hbl
  go_loopg [19] L.length (fun q i wr => ∃ k : Nat, i = .int .i64 k ∧ Aside0 (k + q = L.length) ∧ Aside0 (Boxed wr (w1.heap.size + 1 + 1) 40 (.slice (some ⟨w1.heap.size + 1, 0, none⟩) L.length L.length)) ∧ Aside0 (wr.heap[w1.heap.size + 1]? = some (.cells (encs (Value.int .u64) (part L k)).toArray 36 (0, 0))) ∧ Aside0 (Below w.heap.size w wr))
  case atStart => exact ⟨0, rfl, ⟨by omega⟩, BX, RW, BL⟩
  case round =>
    obtain ⟨k, rfl, hkq, hbx, hrw, hbl⟩ := hrel
    clear BX RW BL
    by_cases hlt : k < L.length
    · have hgrd : decide (k < L.length) = true := decide_eq_true hlt
      have hlt' : (k : Int) < (L.length : Int) := by omega
      have hk0 : (0 : Int) ≤ (k : Int) := by omega
      have PTK := Aside0.mk (HPT.out k hlt)
      have CW := Aside0.mk (Kd.C_below HC.out hbl.out)
      have hc0 := hbx.out.cell
      have hplen : (part L k).length = L.length := part_length L k (Nat.le_of_lt hlt)
      have hold : wr.cell? ⟨w1.heap.size + 1, k, none⟩ = some (.int .u64 ((part L k)[k]'(by omega))) := by
        rw [blk_cell hrw.out k]
        simp [encs, hplen, hlt]
      have hfr : wr.frozen? ⟨w1.heap.size + 1, k, none⟩ = false := blk_frozen hrw.out k
      obtain ⟨u0, hu0⟩ : ∃ u0, u0 = (part L k)[k]'(by omega) := ⟨_, rfl⟩
      rw [← hu0] at hold
      obtain ⟨x, hx⟩ : ∃ x, x = L[k] := ⟨_, rfl⟩
      have PK := PTK.out
      rw [← hx] at PK
      have PX := Aside0.mk PK
      have HXX := Aside0.mk hx
      have NB := Aside0.mk (show w1.heap.size + 1 < wr.heap.size ∧ w1.heap.size + 1 + 1 < wr.heap.size from ⟨blk_lt hrw.out, hbx.out.lt⟩)
      clear PTK PK hu0 hx hplen
      go_wp2_with fail
      go_region_with
        (first
          | (go_at_call 20; refine (Ptr_c (Kd.C_drew CW.out) HD.out HB.out HL.out PX.out).mono ?_; rintro e w2 ⟨rfl, hb2⟩; have q0 := (hb2.cell (p := ⟨w1.heap.size + 1 + 1, 0, none⟩) NB.out.2).trans hc0; have q1 := (hb2.cell (p := ⟨w1.heap.size + 1, k, none⟩) NB.out.1).trans hold; have q2 := (hb2.frozen (p := ⟨w1.heap.size + 1, k, none⟩) NB.out.1).trans hfr; have K2 := Aside0.mk hb2; clear hb2))
      all_goals
        go_wp2
        go_roundg (gk - 1)
        case measure => have := hkq.out; omega
        case rel =>
          have hb : Below w.heap.size w w2 := (below_drew hbl.out).trans (K2.out.mono hbl.out.size)
          have h2 := (K2.out.block (w1.heap.size + 1) NB.out.1).trans hrw.out
          have hb2 := (K2.out.block (w1.heap.size + 1 + 1) NB.out.2).trans hbx.out
          refine ⟨k + 1, by go_num, ⟨by have := hkq.out; omega⟩, ⟨?_⟩, ⟨?_⟩, ⟨hb.setCell (Nat.le_trans K1.out.size (by simp)) _⟩⟩
          · exact (Below.heap_setCell _ _ _ _ (by simp)).trans hb2
          · rw [blk_set h2 k, encs_set, HXX.out, part_set L k hlt]
    · have hge : decide (k < L.length) = false := decide_eq_false hlt
      have hge2 : L.length ≤ k := by omega
      have hkk : k = L.length := by have := hkq.out; omega
      have HK := Aside0.mk hkk
      clear hkk hlt
      go_wp2
      go_ret
      have hr := hrw.out
      rw [HK.out, part_all] at hr
      have hs := K1.out.size
      exact ⟨_, _, rfl, hbx.out, hr, by omega, by omega, hbl.out⟩
end
set_option linter.unusedVariables false
set_option linter.unusedSimpArgs false

/-- The pointers, each with its place. -/
def pairs (L : List Int) : List (Int × Int) := (List.range L.length).map (fun (i : Nat) => ((i : Int), L.getD i 0))
theorem pairs_length (L : List Int) : (pairs L).length = L.length := by simp [pairs]
theorem pairs_get (L : List Int) (i : Nat) (h : i < L.length) : (pairs L)[i]? = some ((i : Int), L[i]) := by
  simp [pairs, h, List.getD_eq_getElem?_getD]
theorem pairs_take (L : List Int) (i : Nat) (h : i < L.length) : (pairs L).take (i + 1) = (pairs L).take i ++ [((i : Int), L[i])] := by
  rw [List.take_succ_eq_append_getElem (by rw [pairs_length]; exact h)]
  have := pairs_get L i h
  rw [List.getElem?_eq_getElem (by rw [pairs_length]; exact h)] at this
  injection this with this
  rw [this]
theorem pairs_snd (L : List Int) : (pairs L).map (·.2) = L := by
  apply List.ext_getElem?
  intro i
  rcases Nat.lt_or_ge i L.length with h | h
  · rw [List.getElem?_map, pairs_get L i h, List.getElem?_eq_getElem h]
    rfl
  · rw [List.getElem?_eq_none (by rw [List.length_map, pairs_length]; exact h), List.getElem?_eq_none h]
abbrev pencs (p : Int × Int) : Array Value := #[.int .i64 p.1, .int .u64 p.2]
set_option maxRecDepth 100000 in
set_option maxHeartbeats 4000000 in
theorem go1 (n : Nat) (hn : 1 ≤ n) (lo : Nat) (L : List Int) (gb g : Nat) (S : Nat → Prop) (J Jx : List (Int × Int) → World → Prop) (w : World) (hlen : L.length ≤ 1000)
    (hb : Boxed w gb 40 (.slice (some ⟨g, 0, none⟩) L.length L.length)) (hbS : ¬ S gb) (hg : w.heap[g]? = some (.cells (encs (Value.int .u64) L).toArray 36 (0, 0))) (hgS : ¬ S g)
    (hY : ∀ pre x W, J pre W → pre.length < L.length → YieldAt Fence.wide (n - 1) Try.prog lo (pencs x) W fun e W' =>
      (e = .returned (.bool true) ∧ J (pre ++ [x]) W' ∧ Kept W W' S) ∨ (e = .returned (.bool false) ∧ Jx (pre ++ [x]) W'))
    (W : World) (hW : Kept w W S) (hJ0 : J [] W) :
    CallsIn Fence.wide n Try.prog 50 #[.func (.yield lo) #[] #[], .pointer (some ⟨gb, 0, none⟩)] W fun e W' => (∃ v, e = .returned v) ∧
      ((∃ zs, zs = pairs L ∧ J zs W') ∨ (∃ pre, (∃ k, k ≤ L.length ∧ pre = (pairs L).take k) ∧ Jx pre W')) := by
  have HY := Aside0.mk hY
  have BX := Aside0.mk (show ∀ W', Kept w W' S → W'.cell? ⟨gb, 0, none⟩ = some (.slice (some ⟨g, 0, none⟩) L.length L.length) from fun W' hk => (show Boxed W' gb 40 _ from (hk.2 gb hb.lt hbS).trans hb).cell)
  have RX := Aside0.mk (show ∀ W', Kept w W' S → ∀ k (h : k < L.length), W'.cell? ⟨g, k, none⟩ = some (.int .u64 L[k]) from fun W' hk k h => by
    have h1 := (hk.2 g (blk_lt hg) hgS).trans hg
    rw [blk_cell h1 k]
    simp [encs, h])
  have b1 := BX.out W hW
  have HW := Aside0.mk hW
  have HJ0 := Aside0.mk hJ0
  clear hY hb hbS hg hgS hW hJ0
  refine callsIn_of_wp Try.func50 rfl trivial ?_ rfl
  simp only [Try.ntmps50, List.size_toArray, List.length_cons, List.length_nil, Nat.reduceAdd, Nat.reduceSub, Array.replicate_succ, Array.replicate_zero, List.push_toArray, List.append_toArray, List.nil_append, List.cons_append]
  gi_wp2_with fail
  clear b1
  gi_loopw [7] (fun v wr => ∃ k : Nat, v = .int .i64 k ∧ k ≤ L.length ∧ Aside0 (Kept w wr S) ∧ Aside0 (J ((pairs L).take k) wr)) (fun v _ => L.length - (intOf v).toNat)
  case atStart => exact ⟨0, rfl, Nat.zero_le _, HW, ⟨by rw [List.take_zero]; exact HJ0.out⟩⟩
  case round =>
    obtain ⟨k, rfl, hk, HK, HJ⟩ := hrel
    by_cases hlt : k < L.length
    · have hgd : decide (k < L.length) = true := decide_eq_true hlt
      have hc := RX.out wr HK.out k hlt
      obtain ⟨x, hx⟩ : ∃ x, x = L[k] := ⟨_, rfl⟩
      rw [← hx] at hc
      obtain ⟨fn, tmps, assign, body, hy, hR⟩ := HY.out _ ((k : Int), x) wr HJ.out (by rw [List.length_take, pairs_length]; omega)
      dsimp only [pencs] at hy
      have HR := Aside0.mk hR
      have HX := Aside0.mk hx
      have hlo : (k : Int) ≤ 1000 := by omega
      clear hR hx hk
      gi_wp2_with fail
      refine HR.out.mono ?_
      rintro e W3 (⟨rfl, hJ3, hK3⟩ | ⟨rfl, hJx3⟩)
      · have HJ3 := Aside0.mk hJ3
        have HK3 := Aside0.mk (HK.out.then_ hK3 (fun _ h => .inl h))
        clear hJ3 hK3 hy HR hc
        gi_wp2_with fail
        go_roundw
        case rel => exact ⟨k + 1, by go_num, by omega, HK3, ⟨by rw [pairs_take L k hlt, ← HX.out]; exact HJ3.out⟩⟩
        case measure => simp [intOf]; omega
      · have HJX := Aside0.mk hJx3
        clear hy HR hc hJx3
        gi_wp2_with fail
        refine bodyPost_ret (results_none rfl _ _ _) rfl ?_
        exact ⟨⟨_, rfl⟩, .inr ⟨_, ⟨k + 1, by omega, rfl⟩, by rw [pairs_take L k hlt, ← HX.out]; exact HJX.out⟩⟩
    · obtain rfl : k = L.length := by omega
      have HJ' := Aside0.mk (show J (pairs L) wr by have h := HJ.out; rwa [List.take_of_length_le (by rw [pairs_length]; exact Nat.le_refl _)] at h)
      clear HJ hlt hk
      gi_wp2_with fail
      go_end0
      exact ⟨⟨_, rfl⟩, .inl (by first | exact HJ'.out | exact ⟨_, rfl, HJ'.out⟩)⟩
theorem go_stops (n : Nat) (hn : 1 ≤ n) (L : List Int) (gb g : Nat) (S : Nat → Prop) (w : World) (hlen : L.length ≤ 1000)
    (hb : Boxed w gb 40 (.slice (some ⟨g, 0, none⟩) L.length L.length)) (hbS : ¬ S gb) (hg : w.heap[g]? = some (.cells (encs (Value.int .u64) L).toArray 36 (0, 0))) (hgS : ¬ S g) :
    SeqStopsK Fence.wide n Try.prog 50 #[.pointer (some ⟨gb, 0, none⟩)] pencs (fun X Y => Kept X Y S) (fun zs => zs = pairs L) (fun pre => ∃ k, k ≤ L.length ∧ pre = (pairs L).take k) L.length w := fun lo J Jx W hW hJ _ hY hJ0 => by
  exact go1 n hn lo L gb g S J Jx w hlen hb hbS hg hgS (fun pre x W1 h1 h2 => hY pre x W1 h1 h2) W (Kept.of_below hW S) hJ0
set_option linter.unusedVariables false
set_option linter.unusedSimpArgs false

def Cell64 (x : Int) (cs : List Value) : Prop := cs = [.int .u64 x]
/-- What has been collected. -/
def Coll (W : World) (base : Nat) (v : Value) (ps : List Int) : Prop := OwnRow Cell64 36 1 W base v ps
theorem Coll.own {A B : World} {row : Option Nat} {base N : Nat} {v : Value} {ps : List Int} (h : Coll A base v ps) (hg : A.grownBy B row) (hr : ∀ r, row = some r → N ≤ r ∧ ∃ o : Obj, A.heap[r]? = some o ∧ o.isCells = false) : Coll B base v ps := by
  obtain ⟨inner, ho, hp⟩ := h
  refine ⟨inner, ho.kept hg ?_, hp⟩
  rcases ho.2 with ⟨rfl, _⟩ | ⟨g, cap, cur, rfl, _, hgb, _⟩
  · exact .inl rfl
  · refine .inr fun e' => ?_
    obtain ⟨_, o, ho, hc⟩ := hr g (by simpa [Value.ownBlock] using e'.symm)
    rw [hgb] at ho; cases ho; cases hc
theorem Coll.reads {W : World} {base : Nat} {v : Value} {ps : List Int} (h : Coll W base v ps) : ∃ A c, v = .slice A ps.length c ∧ ps.length ≤ c ∧ Kd.C (Kd.int .u64) W A ps.length ps := by
  obtain ⟨A, c, e, hl, hr⟩ := OwnRow.reads (R := (Kd.int .u64).K W) (by
    obtain ⟨inner, ho, hp⟩ := h
    exact ⟨inner, ho, hp.imp_ (fun p cs hc => hc)⟩)
  exact ⟨A, c, e, hl, hr⟩
theorem Coll.set {W : World} {base b : Nat} {t : TypeId} {v u : Value} {ps : List Int} (h : Coll W base v ps) (hb : Boxed W b t u) (ht : t ≠ 36) (u' : Value) : Coll (W.setCell ⟨b, 0, none⟩ u') base v ps := by
  obtain ⟨inner, ho, hp⟩ := h
  exact ⟨inner, ho.kept (grownBy_setCell' W b u') (.inr (hb.not_row ht ho).symm), hp⟩
/-- The two results, told out of their boxes. -/
theorem results24_run (tmps : Array Value) (W : World) (b : Nat) (v : Value) (h4 : tmps.getD 4 undef = .pointer (some ⟨b + 1, 0, none⟩)) (h5 : tmps.getD 5 undef = .pointer (some ⟨b + 1 + 1, 0, none⟩)) (c4 : W.cell? ⟨b + 1, 0, none⟩ = some v) (c5 : W.cell? ⟨b + 1 + 1, 0, none⟩ = some (.bool true)) (hv : ∃ A n c, v = .slice A n c) :
    (results Try.f24 tmps).run Try.prog W = .ok (.tuple #[v, .bool true]) W := by
  obtain ⟨A, n, c, rfl⟩ := hv
  have e : Try.f24.results = #[ResultVar.cell 4 40, ResultVar.cell 5 4] := rfl
  rw [Array.getD_eq_getD_getElem?] at h4 h5
  simp [results, e, h4, h5, c4, c5, go_sem]
theorem nil63 (p : Value) (W : World) : (binOp .eql 63 (.func (.func 50) #[] #[p]) .nilFunc).run Try.prog W = .ok (.bool false) W := by rfl
/-- What ptrs hands back. -/
def Told (w : World) (r : List Int) (e : Ending) (w' : World) : Prop := ∃ A c, e = .returned (.tuple #[.slice A r.length c, .bool true]) ∧ r.length ≤ c ∧ Kd.C (Kd.int .u64) w' A r.length r ∧ Below w.heap.size w w'
namespace PT
/-- The boxes of ptrs. -/
def Bx (W : World) (b : Nat) (most : Int) : Prop := Boxed W b 3 (.int .i64 most) ∧ Boxed W (b + 1) 40 (.slice none 0 0) ∧ Boxed W (b + 1 + 1) 4 (.bool false)
def I (w : World) (b7 : Nat) (most : Int) (pre : List (Int × Int)) (W : World) : Prop :=
  pre.length ≤ most.toNat ∧ Bx W w.heap.size most ∧ (∃ v, Boxed W b7 40 v ∧ Coll W b7 v (pre.map (·.2))) ∧ Below w.heap.size w W
def Ix (w : World) (b7 : Nat) (most : Int) (c : Code) (pre : List (Int × Int)) (W : World) : Prop :=
  (c = .exit 0 ∧ ∃ p x, pre = p ++ [x] ∧ p.length = most.toNat ∧ Bx W w.heap.size most ∧ (∃ v, Boxed W b7 40 v ∧ Coll W b7 v (p.map (·.2))) ∧ Below w.heap.size w W) ∨
  (c = .ret ∧ ∃ p x, pre = p ++ [x] ∧ x.1 ≠ (p.length : Int))
end PT
theorem Bx_own {A B : World} {row : Option Nat} {b N : Nat} {most : Int} (h : PT.Bx A b most) (hg : A.grownBy B row) (hr : ∀ r, row = some r → N ≤ r ∧ ∃ o : Obj, A.heap[r]? = some o ∧ o.isCells = false) : PT.Bx B b most :=
  ⟨class_Of.boxed_own h.1 hg hr, class_Of.boxed_own h.2.1 hg hr, class_Of.boxed_own h.2.2 hg hr⟩
set_option maxRecDepth 100000 in
set_option maxHeartbeats 4000000 in
theorem ptrs_c {A : Option Addr} {c : Nat} {l : List Int} {w : World} (hC : Kd.C (Kd.int .u8) w A l.length l) (hc : l.length ≤ c) (hb : Bytes l) (hl : l.length ≤ 140737488351232) (most : Int) :
    Calls Try.prog 24 #[.slice A l.length c, .int .i64 most] w (Told w ((pL l).take most.toNat)) := by
  obtain ⟨L, hL⟩ : ∃ L, L = pL l := ⟨_, rfl⟩
  have hle : L.length ≤ 126 := by rw [hL, pL_length]; exact np_le l
  have P1 := Aside0.mk (fun (w : World) (h : Kd.C (Kd.int .u8) w A l.length l) => Ptrs_c h hc hb hl)
  rw [← hL] at P1 ⊢
  have HLE := Aside0.mk hle
  have HC := Aside0.mk hC
  clear hC hc hb hl hle hL
  obtain ⟨i0, hi, hz0, hz1, hz2⟩ := info_parts info36_
  refine (callsIn_wide (n := 4)).1 ?_
  refine callsIn_of_wp_marks Try.func24 rfl trivial ?_ rfl
  simp only [Try.ntmps24, List.size_toArray, List.length_cons, List.length_nil, Nat.reduceAdd, Nat.reduceSub, Array.replicate_succ, Array.replicate_zero, List.push_toArray, List.append_toArray, List.nil_append, List.cons_append]
  gi_wp2_with fail
  refine ⟨trivial, ((callsIn_wide (n := 4 - 1)).2 (P1.out _ (Kd.C_alloc (Kd.C_alloc (Kd.C_alloc HC.out _) _) _))).mono ?_⟩
  rintro e w1 ⟨gb, g, rfl, hbx, hrw, hg1, hg2, hbl⟩
  have hsz0 : (((w.alloc (.cells #[.int .i64 most] 3)).alloc (.cells #[.slice none 0 0] 40)).alloc (.cells #[.bool false] 4)).heap.size = w.heap.size + 3 := by simp
  have hB0 : PT.Bx (((w.alloc (.cells #[.int .i64 most] 3)).alloc (.cells #[.slice none 0 0] 40)).alloc (.cells #[.bool false] 4)) w.heap.size most := by
    have b4 := (Boxed.new (w.alloc (.cells #[.int .i64 most] 3)) 40 (.slice none 0 0)).alloc (.cells #[.bool false] 4)
    have b5 := Boxed.new ((w.alloc (.cells #[.int .i64 most] 3)).alloc (.cells #[.slice none 0 0] 40)) 4 (.bool false)
    rw [World.size_alloc] at b4
    rw [World.size_alloc, World.size_alloc] at b5
    exact ⟨((Boxed.new w 3 (.int .i64 most)).alloc _).alloc _, b4, b5⟩
  have hB1 : PT.Bx w1 w.heap.size most := ⟨(hbl.block _ hB0.1.lt).trans hB0.1, (hbl.block _ hB0.2.1.lt).trans hB0.2.1, (hbl.block _ hB0.2.2.lt).trans hB0.2.2⟩
  have hlt1 : w.heap.size + 3 ≤ w1.heap.size := by have := hbl.size; rw [hsz0] at this; exact this
  have hK1 : Below w.heap.size w w1 := (((Below.refl _ w).alloc (Nat.le_refl _) _).alloc (by simp) _).alloc (by simp; omega) _ |>.trans (hbl.mono (by simp; omega))
  have K1 := Aside0.mk hK1
  have B1 := Aside0.mk hB1
  have LT1 := Aside0.mk hlt1
  have BX := Aside0.mk hbx
  have RW := Aside0.mk hrw
  clear hsz0 hB0 hB1 hlt1 hK1 hbx hrw hg1 hg2 hbl P1 HC
  gi_wp2_with fail
  simp only [nil63, Result.andThen]
  gi_wp2_with fail
  have HST := Aside0.mk (go_stops 3 (by omega) L gb g (fun q => w1.heap.size ≤ q) (w1.alloc (.cells #[.slice none 0 0] 40)) (by have := HLE.out; omega) (BX.out.alloc _) (by have := BX.out.lt; omega) ((Below.heap_alloc _ _ _ (blk_lt RW.out)).trans RW.out) (by have := blk_lt RW.out; omega))
  have hz1' : (w1.alloc (.cells #[.slice none 0 0] 40)).heap.size = w1.heap.size + 1 := by simp
  have KS := Aside0.mk (K1.out.alloc K1.out.size (.cells #[.slice none 0 0] 40))
  have B7 := Aside0.mk (Boxed.new w1 40 (.slice none 0 0))
  refine wpIn_rangeFunc_ownF rfl (by omega) (gf := 50) (lb := #[.pointer (some ⟨gb, 0, none⟩)]) rfl trivial (enters_of Try.func50 (by kernel_rfl) rfl) HST.out
    (fun h k => h.then_ k (fun _ h => .inl h)) (fun W l o o' hl ho _ _ => Kept.of_grown (grownBy_putObj' W l o') (Kept.refl W _) (fun q e => by cases e; exact .inl (by rw [hz1'] at hl; omega))) (Below.refl _ _) (fun _ => rfl)
    (PT.I w w1.heap.size most) (PT.Ix w w1.heap.size most) ?own ?ownx ?start
    (fun x => { tmps := #[.slice A l.length c, .int .i64 most, undef, .pointer (some ⟨w.heap.size, 0, none⟩), .pointer (some ⟨w.heap.size + 1, 0, none⟩), .pointer (some ⟨w.heap.size + 1 + 1, 0, none⟩), .func (.func 50) #[] #[.pointer (some ⟨gb, 0, none⟩)], .pointer (some ⟨w1.heap.size, 0, none⟩), .int .i64 x.1, .int .u64 x.2, .slice A l.length c, .func (.func 50) #[] #[.pointer (some ⟨gb, 0, none⟩)], .func (.func 50) #[] #[.pointer (some ⟨gb, 0, none⟩)], .bool false, .func (.func 50) #[] #[.pointer (some ⟨gb, 0, none⟩)], .int .i64 x.1, .int .u64 x.2, undef, undef, undef, undef, undef, undef, undef, undef, undef, undef, undef, undef, undef], defers := [] }) ?assign ?body ?done ?stop
  case own =>
    rintro s X Y row ⟨h1, h2, ⟨v, h3, h4⟩, h5⟩ hg hr
    exact ⟨h1, Bx_own h2 hg hr, ⟨v, class_Of.boxed_own h3 hg hr, h4.own hg hr⟩, class_Of.below_own h5 hg hr KS.out.size⟩
  case ownx =>
    rintro c s X Y row (⟨h1, p, x, h2, h3, h2', ⟨v, h4, h5⟩, h6⟩ | h1) hg hr
    · exact .inl ⟨h1, p, x, h2, h3, Bx_own h2' hg hr, ⟨v, class_Of.boxed_own h4 hg hr, h5.own hg hr⟩, class_Of.below_own h6 hg hr KS.out.size⟩
    · exact .inr h1
  case start => exact ⟨Nat.zero_le _, ⟨B1.out.1.alloc _, B1.out.2.1.alloc _, B1.out.2.2.alloc _⟩, ⟨_, B7.out, [], World.ownsRow_nil _ _ _ _, Reps.none _ _⟩, KS.out⟩
  case assign =>
    intro l x W K hK
    gi_wp2_with ((rw [Oper.semAt_eq _ _ _ (fun c h => by cases h)]; go_simp; try go_bits))
    exact hK
  case body =>
    rintro l pre x W ⟨hp, bb, ⟨v, b7, hcoll⟩, kb⟩ hlen
    obtain ⟨Av, cv, rfl, hcv, _⟩ := hcoll.reads
    obtain ⟨inner, hown, hreps⟩ := hcoll
    have hn0 : (pre.map (·.2)).length = pre.length := List.length_map _
    rw [hn0] at b7 hown
    have hc3 := bb.1.cell
    have hc4 := bb.2.1.cell
    have hf4 := bb.2.1.frozen
    have hc5 := bb.2.2.cell
    have hf5 := bb.2.2.frozen
    have hc7 := b7.cell
    have hf7 := b7.frozen
    have hpl : pre.length ≤ 126 := by have := HLE.out; omega
    have HRP := Aside0.mk hreps
    have HOW := Aside0.mk hown
    have KBX := Aside0.mk kb
    have HB7 := Aside0.mk b7
    have HBB := Aside0.mk bb
    have HP := Aside0.mk hp
    clear hcv hreps kb bb hlen
    by_cases h1 : (pre.length : Int) ≥ most
    · have h1b : decide ((pre.length : Int) ≥ most) = true := decide_eq_true h1
      have hpe : pre.length = most.toNat := by omega
      clear h1
      gi_wp2_with ((rw [Oper.semAt_eq _ _ _ (fun c h => by cases h)]; go_simp; try go_bits))
      exact ⟨KeepsOthers.refl _, .inl ⟨rfl, pre, x, rfl, hpe, HBB.out, ⟨_, HB7.out, inner, by rw [hn0]; exact HOW.out, HRP.out⟩, KBX.out⟩⟩
    have h1b : decide ((pre.length : Int) ≥ most) = false := decide_eq_false h1
    have hpe : pre.length + 1 ≤ most.toNat := by omega
    clear h1 hp
    by_cases h2 : x.1 = (pre.length : Int)
    case neg =>
      have h2b : (x.1 != (pre.length : Int)) = true := by simpa using h2
      have h2c : (x.1 == (pre.length : Int)) = false := by simpa using h2
      have H2 := Aside0.mk h2
      clear h2
      have hne : w.heap.size + 1 + 1 ≠ w.heap.size + 1 := by omega
      gi_wp2_with ((rw [Oper.semAt_eq _ _ _ (fun c h => by cases h)]; go_simp; try go_bits))
      exact ⟨(KeepsOthers.setCell _ _ _).trans (KeepsOthers.setCell _ _ _), .inr ⟨rfl, pre, x, rfl, H2.out⟩⟩
    have h2b : (x.1 != (pre.length : Int)) = false := by simpa using h2
    have h2c : (x.1 == (pre.length : Int)) = true := by simpa using h2
    have H2 := Aside0.mk h2
    clear h2
    obtain ⟨x1, x2⟩ := x
    simp only at h2b h2c H2
    have HNN := Aside0.mk hn0
    clear hn0 hc4 hf4 hc5 hf5
    gi_wp2_with (first
      | (gi_at_builtin; refine wpListIn_append_own _ rfl _ _ 40 rfl w1.heap.size 36 i0 (.int .u64 0) 1 8 Try.underlying40 hi hz0 hz1 hz2 rfl (by decide) _ _ inner rfl (HOW.out.alloc _) ⟨W.heap.size, 0, none⟩ 1 1 [.int .u64 x2] rfl rfl (by simpa using World.news_of_block (cs := #[.int .u64 x2]) (t := 36) (fr := (0, 0)) (heap_alloc_new W (.cells #[.int .u64 x2] 36))) (by simp [Value.oneCell']) (by simp only [maxLen]; omega) (by omega) (by have := HB7.out.lt; simp; omega) ?_; intro v' w2 hown' hgrow _; obtain ⟨g', cap', rfl⟩ := ownsRow_succ hown'; obtain ⟨hv1, hv2, hr2, hk2, hb2⟩ := HB7.out.appended (by decide) HOW.out (Nat.le_of_lt HB7.out.lt) (Nat.le_refl _) hown' hgrow; have hc1 := hv1.cell; have hf1 := hv1.frozen)
      | (rw [Oper.semAt_eq _ _ _ (fun c h => by cases h)]; go_simp; try go_bits))
    have hb3 := LT1.out
    exact ⟨hk2, ⟨hb2.size, fun i hi hs => hb2.block i (Nat.lt_of_not_le hs)⟩, ⟨by rw [List.length_append]; exact hpe, ⟨(hb2.block _ (by omega)).trans HBB.out.1, (hb2.block _ (by omega)).trans HBB.out.2.1, (hb2.block _ (by omega)).trans HBB.out.2.2⟩, ⟨_, hv2, inner ++ [.int .u64 x2], by rw [List.map_append, List.length_append, HNN.out]; exact hr2, by rw [List.map_append]; exact HRP.out.snoc rfl rfl⟩, KBX.out.trans (hb2.mono (by omega))⟩⟩
  case done =>
    rintro D xs W hD rfl ⟨hp, bb, ⟨v, b7, hcoll⟩, kb⟩ hK
    obtain ⟨Av, cv, rfl, hcv, _⟩ := hcoll.reads
    have hc4 := bb.2.1.cell
    have hf4 := bb.2.1.frozen
    have hc5 := bb.2.2.cell
    have hf5 := bb.2.2.frozen
    have hc7 := b7.cell
    have hne : w.heap.size + 1 + 1 ≠ w.heap.size + 1 := by omega
    have hr : L.take most.toNat = L := by rw [List.take_of_length_le]; rw [pairs_length] at hp; exact hp
    have BBB := Aside0.mk bb
    have CO := Aside0.mk hcoll
    have KB := Aside0.mk kb
    have HKK := Aside0.mk hK
    have HDD := Aside0.mk hD
    have HRR := Aside0.mk hr
    clear hcv hcoll bb kb hK hr hp
    gi_wp2_with fail
    have lt1 := LT1.out
    have hd2 := HDD.out
    rw [hz1'] at hd2
    have hK2 : ((W.setCell ⟨w.heap.size + 1, 0, none⟩ (.slice Av (pairs L).length cv)).setCell ⟨w.heap.size + 1 + 1, 0, none⟩ (.bool true)).heap[D]? = some (.deferred (some [])) := by
      rw [Below.heap_setCell _ _ _ _ (by simp; omega), Below.heap_setCell _ _ _ _ (by simp; omega)]
      exact HKK.out
    have b4 := (BBB.out.2.1.set (.slice Av (pairs L).length cv)).kept (grownBy_setCell' _ (w.heap.size + 1 + 1) (.bool true)) (by simp)
    have b5 := (class_Of.boxed_set_far BBB.out.2.2 (w.heap.size + 1) (.slice Av (pairs L).length cv) (by omega)).set (.bool true)
    have co := (CO.out.set BBB.out.2.1 (by decide) (.slice Av (pairs L).length cv)).set (class_Of.boxed_set_far BBB.out.2.2 (w.heap.size + 1) (.slice Av (pairs L).length cv) (by omega)) (by decide) (.bool true)
    have kb := (KB.out.setCell (p := ⟨w.heap.size + 1, 0, none⟩) (by simp) (.slice Av (pairs L).length cv)).setCell (p := ⟨w.heap.size + 1 + 1, 0, none⟩) (by simp; omega) (.bool true)
    refine ⟨by simp, .inl ⟨_, _, rfl, run_takeDeferred hK2, ?_⟩⟩
    have hgo : ∀ r, some D = some r → D ≤ r ∧ ∃ o : Obj, ((W.setCell ⟨w.heap.size + 1, 0, none⟩ (.slice Av (pairs L).length cv)).setCell ⟨w.heap.size + 1 + 1, 0, none⟩ (.bool true)).heap[r]? = some o ∧ o.isCells = false := fun r e => by cases e; exact ⟨Nat.le_refl _, _, hK2, rfl⟩
    have b4' := class_Of.boxed_own (N := D) b4 (grownBy_putObj' _ D (.deferred none)) hgo
    have b5' := class_Of.boxed_own (N := D) b5 (grownBy_putObj' _ D (.deferred none)) hgo
    have co' := co.own (N := D) (grownBy_putObj' _ D (.deferred none)) hgo
    have kb' := class_Of.below_own (N := D) kb (grownBy_putObj' _ D (.deferred none)) hgo (by omega)
    refine ⟨_, results24_run _ _ w.heap.size _ rfl rfl b4'.cell b5'.cell ⟨_, _, _, rfl⟩, ?_⟩
    obtain ⟨A', c', e', hl', hC'⟩ := co'.reads
    rw [HRR.out]
    rw [pairs_snd] at e' hl' hC'
    exact ⟨A', c', by rw [← e', pairs_length], hl', hC', kb'⟩
  case stop =>
    rintro D c' pre W hD ⟨k, hk, rfl⟩ (⟨rfl, p, x, hpx, hpm, bb, ⟨v, b7, hcoll⟩, kb⟩ | ⟨rfl, p, x, hpx, hx⟩) hK
    case inr =>
      exfalso
      have h1 := congrArg List.length hpx
      rw [List.length_take, pairs_length, List.length_append, List.length_singleton] at h1
      have h2 : ((pairs L).take k)[p.length]? = some x := by rw [hpx]; simp
      rw [List.getElem?_take, if_pos (by omega), pairs_get L p.length (by omega)] at h2
      injection h2 with h2
      rw [← h2] at hx
      exact hx rfl
    have hpe : p = (pairs L).take most.toNat := by
      have h1 := congrArg List.length hpx
      rw [List.length_take, pairs_length, List.length_append, List.length_singleton] at h1
      calc p = ((pairs L).take k).take p.length := by rw [hpx]; simp
        _ = (pairs L).take (min p.length k) := List.take_take
        _ = (pairs L).take most.toNat := by congr 1; omega
    have hps : p.map (·.2) = L.take most.toNat := by rw [hpe, List.map_take, pairs_snd]
    have HPS := Aside0.mk hps
    clear hps hpe hpx hpm hk
    obtain ⟨Av, cv, rfl, hcv, _⟩ := hcoll.reads
    have hc4 := bb.2.1.cell
    have hf4 := bb.2.1.frozen
    have hc5 := bb.2.2.cell
    have hf5 := bb.2.2.frozen
    have hc7 := b7.cell
    have hne : w.heap.size + 1 + 1 ≠ w.heap.size + 1 := by omega
    have BBB := Aside0.mk bb
    have CO := Aside0.mk hcoll
    have KB := Aside0.mk kb
    have HKK := Aside0.mk hK
    have HDD := Aside0.mk hD
    clear hcv hcoll bb kb hK
    gi_wp2_with fail
    have lt1 := LT1.out
    have hd2 := HDD.out
    rw [hz1'] at hd2
    have hK2 : ((W.setCell ⟨w.heap.size + 1, 0, none⟩ (.slice Av p.length cv)).setCell ⟨w.heap.size + 1 + 1, 0, none⟩ (.bool true)).heap[D]? = some (.deferred (some [])) := by
      rw [Below.heap_setCell _ _ _ _ (by simp; omega), Below.heap_setCell _ _ _ _ (by simp; omega)]
      exact HKK.out
    have b4 := (BBB.out.2.1.set (.slice Av p.length cv)).kept (grownBy_setCell' _ (w.heap.size + 1 + 1) (.bool true)) (by simp)
    have b5 := (class_Of.boxed_set_far BBB.out.2.2 (w.heap.size + 1) (.slice Av p.length cv) (by omega)).set (.bool true)
    have co := (CO.out.set BBB.out.2.1 (by decide) (.slice Av p.length cv)).set (class_Of.boxed_set_far BBB.out.2.2 (w.heap.size + 1) (.slice Av p.length cv) (by omega)) (by decide) (.bool true)
    have kb := (KB.out.setCell (p := ⟨w.heap.size + 1, 0, none⟩) (by simp) (.slice Av p.length cv)).setCell (p := ⟨w.heap.size + 1 + 1, 0, none⟩) (by simp; omega) (.bool true)
    refine ⟨by simp, .inl ⟨_, _, rfl, run_takeDeferred hK2, ?_⟩⟩
    have hgo : ∀ r, some D = some r → D ≤ r ∧ ∃ o : Obj, ((W.setCell ⟨w.heap.size + 1, 0, none⟩ (.slice Av p.length cv)).setCell ⟨w.heap.size + 1 + 1, 0, none⟩ (.bool true)).heap[r]? = some o ∧ o.isCells = false := fun r e => by cases e; exact ⟨Nat.le_refl _, _, hK2, rfl⟩
    have b4' := class_Of.boxed_own (N := D) b4 (grownBy_putObj' _ D (.deferred none)) hgo
    have b5' := class_Of.boxed_own (N := D) b5 (grownBy_putObj' _ D (.deferred none)) hgo
    have co' := co.own (N := D) (grownBy_putObj' _ D (.deferred none)) hgo
    have kb' := class_Of.below_own (N := D) kb (grownBy_putObj' _ D (.deferred none)) hgo (by omega)
    refine ⟨_, results24_run _ _ w.heap.size _ rfl rfl b4'.cell b5'.cell ⟨_, _, _, rfl⟩, ?_⟩
    obtain ⟨A', c', e', hl', hC'⟩ := co'.reads
    have hpl : p.length = (L.take most.toNat).length := by rw [← HPS.out, List.length_map]
    rw [HPS.out] at e' hl' hC'
    exact ⟨A', c', by rw [← e', hpl], hl', hC', kb'⟩
set_option linter.unusedVariables false
set_option linter.unusedSimpArgs false

theorem eq64_l0 (l : List Int) (hn : l.length ≤ 1000000) (d : Nat) : ∀ (k i : Nat), i + d = l.length → d < k → slices_Equal_uint64_uint64.l0 k l l (l.length : Int) (i : Int) = some true := by
  induction d with
  | zero =>
    intro k i hi hk
    obtain ⟨k, rfl⟩ : ∃ m, k = m + 1 := ⟨k - 1, by omega⟩
    rw [slices_Equal_uint64_uint64.l0, if_neg (by omega)]
  | succ d ih =>
    intro k i hi hk
    obtain ⟨k, rfl⟩ : ∃ m, k = m + 1 := ⟨k - 1, by omega⟩
    rw [slices_Equal_uint64_uint64.l0, if_pos (by omega), if_pos (by omega), if_pos (by omega), if_pos (by omega), if_pos rfl, w64id (by omega) (by omega)]
    exact ih k (i + 1) (by omega) (by omega)
theorem eq64_f (l : List Int) (hn : l.length ≤ 1000000) : slices_Equal_uint64_uint64.f (l.length + 1) l l = some true := by
  unfold slices_Equal_uint64_uint64.f
  rw [if_pos rfl]
  exact eq64_l0 l hn l.length _ 0 (by omega) (by omega)
/-- Numbers that are handed back. -/
def Gives64 (w : World) (r : List Int) (e : Ending) (w' : World) : Prop := ∃ A c, e = .returned (.slice A r.length c) ∧ r.length ≤ c ∧ Kd.C (Kd.int .u64) w' A r.length r ∧ Below w.heap.size w w'
theorem eq64_c {A A2 : Option Addr} {c c2 : Nat} {l : List Int} {w : World} (hC : Kd.C (Kd.int .u64) w A l.length l) (hc : l.length ≤ c) (hC2 : Kd.C (Kd.int .u64) w A2 l.length l) (hc2 : l.length ≤ c2) (hn : l.length ≤ 1000000) : Calls Try.prog 26 #[.slice A l.length c, .slice A2 l.length c2] w fun e w' => e = .returned (.bool true) ∧ Below w.heap.size w w' := by
  refine (slices_Equal_uint64_uint64.calls _ A c l A2 c2 l true w hC hc hC2 hc2 (eq64_f l hn)).mono ?_
  rintro e w' ⟨rfl, hd⟩
  exact ⟨rfl, by first | exact hd | exact drawn_below hd⟩
set_option linter.unusedVariables false
set_option linter.unusedSimpArgs false

theorem over_get {α : Type} (l : List α) (o : Nat) (x : List α) (h : o + x.length ≤ l.length) (j : Nat) : (over l o x)[j]? = if j < o then l[j]? else if j < o + x.length then x[j - o]? else l[j]? := by
  unfold over
  have e : min o l.length = o := Nat.min_eq_left (by omega)
  simp only [List.getElem?_append, List.length_take, e, List.getElem?_take, List.getElem?_drop]
  by_cases h1 : j < o
  · simp only [h1, if_true]
  · by_cases h2 : j < o + x.length
    · simp only [h1, h2, if_true, if_false, show j - o < x.length by omega]
    · simp only [h1, h2, if_false, show ¬ (j - o < x.length) by omega, show o + x.length + (j - o - x.length) = j by omega]
theorem over_apart {l x : List Int} {o p n : Nat} (h : o + x.length ≤ l.length) (hp : p + n ≤ o ∨ o + x.length ≤ p) : ((over l o x).drop p).take n = (l.drop p).take n := by
  apply List.ext_getElem?
  intro j
  rw [List.getElem?_take, List.getElem?_take, List.getElem?_drop, List.getElem?_drop, over_get l o x h]
  by_cases hj : j < n
  · rw [if_pos hj, if_pos hj]
    by_cases h1 : p + j < o
    · rw [if_pos h1]
    · rw [if_neg h1, if_neg (by omega)]
  · rw [if_neg hj, if_neg hj]
theorem over_in {l x : List Int} {p i n : Nat} (hx : i + x.length ≤ n) (hn : p + n ≤ l.length) : ((over l (p + i) x).drop p).take n = over ((l.drop p).take n) i x := by
  have hl : ((l.drop p).take n).length = n := by rw [List.length_take, List.length_drop]; omega
  apply List.ext_getElem?
  intro j
  rw [over_get _ i x (by omega), List.getElem?_take, List.getElem?_take, List.getElem?_drop, List.getElem?_drop, over_get l (p + i) x (by omega)]
  by_cases h1 : j < i
  · rw [if_pos (show j < n by omega), if_pos (show p + j < p + i by omega), if_pos h1, if_pos (show j < n by omega)]
  · rw [if_neg (show ¬ (p + j < p + i) by omega), if_neg h1]
    by_cases h2 : j < i + x.length
    · rw [if_pos (show p + j < p + i + x.length by omega), if_pos h2, if_pos (show j < n by omega), show p + j - (p + i) = j - i by omega]
    · rw [if_neg (show ¬ (p + j < p + i + x.length) by omega), if_neg h2]
theorem over_same {l x : List Int} {o : Nat} (h : o + x.length ≤ l.length) : ((over l o x).drop o).take x.length = x := by
  have := over_in (l := l) (x := x) (p := o) (i := 0) (n := x.length) (by omega) h
  rw [Nat.add_zero] at this
  rw [this]
  have hl : ((l.drop o).take x.length).length = x.length := by rw [List.length_take, List.length_drop]; omega
  unfold over
  rw [List.take_zero, List.nil_append, Nat.zero_add, List.drop_eq_nil_of_le (by omega), List.append_nil]
theorem over_head {l x : List Int} {o p : Nat} (h : o + x.length ≤ l.length) (hp : p ≤ o) : (over l o x).take p = l.take p := by
  have := over_apart (l := l) (x := x) (o := o) (p := 0) (n := p) h (.inl (by omega))
  rwa [List.drop_zero, List.drop_zero] at this
theorem over_bytes {l x : List Int} {o : Nat} (hl : Bytes l) (hx : Bytes x) : Bytes (over l o x) := by
  intro y hy
  unfold over at hy
  rcases List.mem_append.1 hy with h | h
  · exact hl y (List.mem_of_mem_take h)
  · rcases List.mem_append.1 h with h | h
    · exact hx y h
    · exact hl y (List.mem_of_mem_drop h)
theorem gnum_numL (n v : Nat) : gnum (numL n v) = v % 256 ^ n := by
  induction n generalizing v with
  | zero => simp [numL, gnum, Nat.mod_one]
  | succ n ih =>
    have h1 : numL (n + 1) v = ((v % 256 : Nat) : Int) :: numL n (v / 256) := by
      unfold numL
      rw [List.range_succ_eq_map, List.map_cons, List.map_map]
      congr 1
      · simp
      · apply List.map_congr_left
        intro i _
        simp only [Function.comp_apply]
        rw [Nat.succ_eq_add_one, Nat.pow_succ, Nat.mul_comm, ← Nat.div_div_eq_div_mul]
    rw [h1, gnum, ih, Int.toNat_natCast, Nat.pow_succ, Nat.mul_comm (256 ^ n) 256, Nat.mod_mul]
theorem gnum_zeros (n : Nat) : gnum (List.replicate n 0) = 0 := by
  induction n with
  | zero => rfl
  | succ n ih =>
    rw [List.replicate_succ, gnum, ih]
    rfl
theorem getL_take (l : List Int) (p n q : Nat) (h : p + n ≤ q) : getL (l.take q) p n = getL l p n := by
  unfold getL
  rw [List.drop_take, List.take_take, Nat.min_eq_left (by omega)]
theorem rd_take16 {l : List Int} {i : Nat} (h : i < 16) (hl : 16 ≤ l.length) : rd l (i : Int) = rd (l.take 16) (i : Int) := by
  unfold rd
  rw [Int.toNat_natCast, List.getD_eq_getElem?_getD, List.getD_eq_getElem?_getD, List.getElem?_take, if_pos h]
/-- The numbers that an object's head tells. -/
theorem head_nums {l : List Int} {a b c g : Int} (h : l.take 16 = hdL a b c g) (hl : 16 ≤ l.length) (h1 : chk a b c = 0) (hg : 1 ≤ g ∧ g ≤ 1099511627776) : pa l = a ∧ pb l = b ∧ pc l = c ∧ pg l = g := by
  obtain ⟨c1, c2, c3, c4⟩ := chk_ok h1
  have r0 : rd l 0 = a % 256 := by
    have := rd_take16 (i := 0) (by decide) hl
    rw [h] at this
    exact this
  have r1 : rd l 1 = b % 256 := by
    have := rd_take16 (i := 1) (by decide) hl
    rw [h] at this
    exact this
  have g2 : getL l 2 2 = c.toNat % 256 ^ 2 := by
    rw [← getL_take l 2 2 16 (by decide), h, ← gnum_numL]
    unfold hdL getL
    obtain ⟨u, v, e2⟩ := len2 (numL_length 2 c.toNat)
    rw [e2]
    rfl
  have g8 : getL l 8 8 = g.toNat % 256 ^ 8 := by
    rw [← getL_take l 8 8 16 (by decide), h, ← gnum_numL]
    unfold hdL getL
    obtain ⟨u, v, e2⟩ := len2 (numL_length 2 c.toNat)
    obtain ⟨q0, q1, q2, q3, q4, q5, q6, q7, e8⟩ := len8 (numL_length 8 g.toNat)
    rw [e2, e8]
    rfl
  refine ⟨?_, ?_, ?_, ?_⟩
  · unfold pa
    rw [r0, w64id (by omega) (by omega)]
    omega
  · unfold pb
    rw [r1, w64id (by omega) (by omega)]
    omega
  · unfold pc getA
    rw [if_neg (by omega)]
    show wrap64 ((getL l 2 2 : Nat) : Int) = c
    rw [g2, Nat.mod_eq_of_lt (by omega), w64id (by omega) (by omega)]
    omega
  · unfold pg getA
    rw [if_neg (by omega)]
    show wrap64 ((getL l 8 8 : Nat) : Int) = g
    rw [g8, Nat.mod_eq_of_lt (by omega), w64id (by omega) (by omega)]
    omega
/-- An object of a shape and a number. -/
structure Obj3 (l : List Int) (a b c g : Int) : Prop where
  obj : IsObj l
  a_ : pa l = a
  b_ : pb l = b
  c_ : pc l = c
  g_ : pg l = g
theorem obj3_of {l : List Int} {a b c g : Int} (h : l.take 16 = hdL a b c g) (hd : (HD a b c g).2 = 0) (hs : l.length = SL a b c) : Obj3 l a b c g := by
  obtain ⟨h0, _⟩ := HD_OF hd
  obtain ⟨n, s, hn, e, hs1, hsl, s1, s2⟩ := SL_of h0
  have hl : 16 ≤ l.length := by rw [hs, hsl]; omega
  have hP : Parsed l a b c g := ⟨hl, hd, h.symm, hs⟩
  obtain ⟨q1, q2, q3, q4, q5, q6⟩ := hP.shape
  obtain ⟨e1, e2, e3, e4⟩ := head_nums h hl q1 ⟨q3, q4⟩
  exact ⟨by unfold IsObj; rw [e1, e2, e3, e4]; exact hP, e1, e2, e3, e4⟩
theorem obj3_over {l x : List Int} {o : Nat} {a b c g : Int} (h : Obj3 l a b c g) (hx : o + x.length ≤ l.length) (ho : 16 ≤ o) : Obj3 (over l o x) a b c g := by
  have hP : Parsed l a b c g := by have := h.obj; unfold IsObj at this; rw [h.a_, h.b_, h.c_, h.g_] at this; exact this
  exact obj3_of (by rw [over_head hx ho, hP.same]) hP.head (by rw [over_length hx, hP.slot])
/-- A new object's bytes. -/
def newL (a b c g : Int) : List Int := hdL a b c g ++ List.replicate (SL a b c - 16) 0
theorem MK_ok {a b c g : Int} (h : (MK a b c g).2 = 0) : (HD a b c g).2 = 0 ∧ MK a b c g = (newL a b c g, 0) := by
  unfold MK at h ⊢
  by_cases h0 : (HD a b c g).2 = 0
  · rw [if_pos h0]
    exact ⟨h0, by unfold newL; rw [(HD_OF h0).2]⟩
  · rw [if_neg h0] at h
    exact absurd h h0
theorem MK_no {a b c g : Int} (h : (MK a b c g).2 ≠ 0) : (MK a b c g).1 = [] := by
  unfold MK at h ⊢
  by_cases h0 : (HD a b c g).2 = 0
  · rw [if_pos h0] at h
    exact absurd rfl h
  · rw [if_neg h0]
theorem newL_length {a b c g : Int} (h : (HD a b c g).2 = 0) : (newL a b c g).length = SL a b c := by
  obtain ⟨n, s, hn, e, hs1, hsl, s1, s2⟩ := SL_of (HD_OF h).1
  unfold newL
  rw [List.length_append, hdL_length, List.length_replicate]
  omega
theorem newL_bytes (a b c g : Int) : Bytes (newL a b c g) := by
  intro x hx
  unfold newL at hx
  rcases List.mem_append.1 hx with h | h
  · exact hdL_bytes _ _ _ _ x h
  · rw [List.mem_replicate] at h
    omega
theorem newL_obj {a b c g : Int} (h : (HD a b c g).2 = 0) : Obj3 (newL a b c g) a b c g := by
  refine obj3_of ?_ h (newL_length h)
  unfold newL
  have := hdL_length a b c g
  rw [List.take_append_of_le_length (by omega), List.take_of_length_le (by omega)]
theorem newL_seg (a b c g : Int) (p n : Nat) (hp : 16 ≤ p) (hn : p + n ≤ (newL a b c g).length) : ((newL a b c g).drop p).take n = List.replicate n 0 := by
  have hl := hdL_length a b c g
  unfold newL at hn ⊢
  rw [List.length_append, hl, List.length_replicate] at hn
  rw [List.drop_append, hl, List.drop_eq_nil_of_le (by omega), List.nil_append, List.drop_replicate, List.take_replicate, Nat.min_eq_left (by omega)]
theorem newL_pL {a b c g : Int} (h : (HD a b c g).2 = 0) : pL (newL a b c g) = List.replicate b.toNat 0 := by
  have ho := newL_obj h
  obtain ⟨e1, e2, e3, e4⟩ := ho.obj.pn
  have hn : np (newL a b c g) = b.toNat := by unfold np; rw [if_pos ho.obj]; unfold pn; rw [ho.b_]
  have hpn : pn (newL a b c g) = b.toNat := by unfold pn; rw [ho.b_]
  apply List.ext_getElem
  · rw [pL_length, hn, List.length_replicate]
  · intro i h1 h2
    rw [pL_length, hn] at h1
    rw [pL_get, List.getElem_replicate]
    unfold pw getL
    rw [newL_seg _ _ _ _ _ _ (by omega) (by omega), gnum_zeros]
    rfl
theorem newL_dX {a b c g : Int} (h : (HD a b c g).2 = 0) : dX (newL a b c g) = List.replicate c.toNat 0 := by
  have ho := newL_obj h
  obtain ⟨e1, e2, e3, e4, e5, e6, e7⟩ := ho.obj.nums
  unfold dX
  rw [List.drop_take, Nat.add_sub_cancel_left, newL_seg _ _ _ _ _ _ (by unfold dfr; omega) e3]
  unfold dn
  rw [ho.c_]
end Go.Proofs.Ytckdnkiacnonkaa.Pure
