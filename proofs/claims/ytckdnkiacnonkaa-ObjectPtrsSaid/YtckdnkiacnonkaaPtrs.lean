/- Ptrs: the function that goes through an object's pointers. -/
import Derived.Test.YtckdnkiacnonkaaClean5
import Derived.Test.YtckdnkiacnonkaaPAllx12
import Derived.RangeFuncBox
import Derived.RangeFuncCalls
import Derived.RangeFuncFrom
import Derived.RangeFuncMany
import Derived.RangeFuncLeaves
import Derived.Shelf.Abstract
import Derived.OwnWalkIn
import Derived.TacticsInMore
import Derived.LoopNIn
import Derived.LoopIn
import Derived.BigFrameIn
import Derived.Deep.RegionWith
namespace Go.Proofs.Ytckdnkiacnonkaa.Pure
open Go.RowKit Go.Proofs.Ytckdnkiacnonkaa.PAll Go.Proofs.Ytckdnkiacnonkaa.Mem Go.Proofs.YtckdnkiacnonkaaW.PrintWords Go.Proofs.YtckdnkiacnonkaaW.PrintLast Go.Proofs.YtckdnkiacnonkaaW.PrintMore
set_option linter.unusedVariables false
set_option linter.unusedSimpArgs false

/-- How many pointers there are, of any bytes. -/
def np (l : List Int) : Nat := if IsObj l then pn l else 0
/-- An object's pointer. -/
def pw (l : List Int) (i : Nat) : Int := (getL l (16 + 8 * i) 8 : Nat)
def pL (l : List Int) : List Int := (List.range (np l)).map (pw l)
theorem pL_length (l : List Int) : (pL l).length = np l := by simp [pL]
theorem pL_get (l : List Int) (i : Nat) (h : i < (pL l).length) : (pL l)[i] = pw l i := by simp [pL]
theorem np_le (l : List Int) : np l ≤ 126 := by
  unfold np
  split
  · rename_i h
    exact h.pn.2.2.2
  · omega
theorem PT_pw (l : List Int) (i : Nat) (h : i < np l) : PT l (i : Int) = (pw l i, 0) := by
  unfold np at h
  unfold PT
  split at h
  · rename_i ho
    rw [if_pos ho, if_neg (by omega), Int.toNat_natCast]
    rfl
  · omega
/-- What a parse says of the pointers. -/
theorem parse_np (l : List Int) (hb : Bytes l) (hl : l.length ≤ 140737488351232) : ∃ a d g e, object_Parse.f 1200 l = some (a, ((np l : Nat) : Int), d, g, e) := by
  by_cases h : IsObj l
  · have h1 := (parse_yes 1200 l hb hl (by decide) h).1
    refine ⟨pa l, pc l, pg l, 0, h1.trans ?_⟩
    unfold np
    rw [if_pos h, ← h.pn.1]
  · have h1 := (parse_no 1200 l hb hl (by decide) h).1
    refine ⟨0, 0, 0, 130, h1.trans ?_⟩
    unfold np
    rw [if_neg h]
    rfl
theorem info36_ : (Try.prog.info? 36).map (fun i => (i.zero, i.size, i.bytes)) = some (some (.int .u64 0), 1, 8) := by kernel_rfl
/-- The row while it is filled. -/
def part (L : List Int) (k : Nat) : List Int := L.take k ++ List.replicate (L.length - k) 0
theorem part_zero (L : List Int) : part L 0 = List.replicate L.length 0 := by simp [part]
theorem part_all (L : List Int) : part L L.length = L := by simp [part]
theorem part_length (L : List Int) (k : Nat) (h : k ≤ L.length) : (part L k).length = L.length := by simp [part]; omega
theorem part_set (L : List Int) (k : Nat) (h : k < L.length) : (part L k).set k L[k] = part L (k + 1) := by
  unfold part
  have h1 : (L.take k).length = k := by rw [List.length_take]; omega
  rw [List.set_append_right _ _ (by omega), h1, Nat.sub_self, show L.length - k = (L.length - (k + 1)) + 1 by omega, List.replicate_succ, List.set_cons_zero, List.take_succ_eq_append_getElem h, List.append_assoc]
  rfl
theorem encs_set (L : List Int) (k : Nat) (x : Int) : ((encs (Value.int .u64) L).toArray).setIfInBounds k (.int .u64 x) = (encs (Value.int .u64) (L.set k x)).toArray := by
  simp [encs]
/-- What Ptrs hands back. -/
def PtrsPost (w : World) (L : List Int) (e : Ending) (w' : World) : Prop :=
  ∃ gb g, e = .returned (.func (.func 50) #[] #[.pointer (some ⟨gb, 0, none⟩)]) ∧ Boxed w' gb 40 (.slice (some ⟨g, 0, none⟩) L.length L.length) ∧ w'.heap[g]? = some (.cells (encs (Value.int .u64) L).toArray 36 (0, 0)) ∧ w.heap.size ≤ g ∧ w.heap.size ≤ gb ∧ Below w.heap.size w w'
section
variable {A : Option Addr} {c : Nat} {l : List Int} {w : World} (hC : Kd.C (Kd.int .u8) w A l.length l) (hc : l.length ≤ c) (hb : Bytes l) (hl : l.length ≤ 140737488351232)
include hC hc hb hl
set_option maxRecDepth 100000 in
set_option maxHeartbeats 4000000 in
theorem Ptrs_c : Calls Try.prog 42 #[.slice A l.length c] w (PtrsPost w (pL l)) := by
  obtain ⟨a, d, g0, e0, hp⟩ := parse_np l hb hl
  obtain ⟨L, hL⟩ : ∃ L, L = pL l := ⟨_, rfl⟩
  have hn : np l = L.length := by rw [hL, pL_length]
  have hle := np_le l
  rw [hn] at hp hle
  have HPT := Aside0.mk (show ∀ (i : Nat) (h : i < L.length), PT l (i : Int) = (L[i], 0) by
    intro i h
    subst hL
    rw [pL_get, PT_pw l i (by omega)])
  rw [← hL]
  have F := Aside0.mk hp
  have HC := Aside0.mk hC
  have HD := Aside0.mk hc
  have HB := Aside0.mk hb
  have HL := Aside0.mk hl
  have hmk := print_make (P := Try.prog) 40 36 .u64 8 Try.underlying40 info36_ (by decide) L.length (by omega)
  have HLE := Aside0.mk hle
  clear hC hc hb hl hp hL hn
  go_enter Try.func42, Try.ntmps42
  go_wp2_with fail
  refine (object_Parse.calls 1200 A c l _ _ _ _ _ w HC.out HD.out F.out).mono ?_
  rintro e w1 ⟨rfl, hb1⟩
  have K1 := Aside0.mk hb1
  have C1 := Aside0.mk (Kd.C_below HC.out hb1)
  clear hb1
  go_wp2_with fail
  have hlo : (L.length : Int) ≤ 9223372036854775807 := by have := HLE.out; omega
  have hbx : Boxed (((w1.alloc (.cells #[.int .i64 a, .int .i64 (L.length : Int), .int .i64 d] 23)).alloc (.cells (madeCells #[.int .u64 0] L.length) 36)).alloc (.cells #[.slice (some ⟨w1.heap.size + 1, 0, none⟩) L.length L.length] 40)) (w1.heap.size + 1 + 1) 40 (.slice (some ⟨w1.heap.size + 1, 0, none⟩) L.length L.length) := by
    have := Boxed.new ((w1.alloc (.cells #[.int .i64 a, .int .i64 (L.length : Int), .int .i64 d] 23)).alloc (.cells (madeCells #[.int .u64 0] L.length) 36)) 40 (.slice (some ⟨w1.heap.size + 1, 0, none⟩) L.length L.length)
    simpa using this
  have hrow : (((w1.alloc (.cells #[.int .i64 a, .int .i64 (L.length : Int), .int .i64 d] 23)).alloc (.cells (madeCells #[.int .u64 0] L.length) 36)).alloc (.cells #[.slice (some ⟨w1.heap.size + 1, 0, none⟩) L.length L.length] 40)).heap[w1.heap.size + 1]? = some (.cells (encs (Value.int .u64) (part L 0)).toArray 36 (0, 0)) := by
    rw [Below.heap_alloc _ _ _ (by simp)]
    have := World.alloc_heap_new (w1.alloc (.cells #[.int .i64 a, .int .i64 (L.length : Int), .int .i64 d] 23)) (.cells (madeCells #[.int .u64 0] L.length) 36)
    rw [World.size_alloc] at this
    rw [this, part_zero]
    congr 2
    apply Array.ext
    · simp [encs, size_madeCells]
    · intro i h1 h2
      simp [encs, madeCells, Nat.mod_one]
  have hbl := ((K1.out.alloc K1.out.size (.cells #[.int .i64 a, .int .i64 (L.length : Int), .int .i64 d] 23)).alloc (Nat.le_trans K1.out.size (by simp)) (.cells (madeCells #[.int .u64 0] L.length) 36)).alloc (Nat.le_trans K1.out.size (by simp; omega)) (.cells #[.slice (some ⟨w1.heap.size + 1, 0, none⟩) L.length L.length] 40)
  have BX := Aside0.mk hbx
  have RW := Aside0.mk hrow
  have BL := Aside0.mk hbl
  clear hbx hrow hbl
  go_loopg [19] L.length (fun q i wr => ∃ k : Nat, i = .int .i64 k ∧ Aside0 (k + q = L.length) ∧ Aside0 (Boxed wr (w1.heap.size + 1 + 1) 40 (.slice (some ⟨w1.heap.size + 1, 0, none⟩) L.length L.length)) ∧ Aside0 (wr.heap[w1.heap.size + 1]? = some (.cells (encs (Value.int .u64) (part L k)).toArray 36 (0, 0))) ∧ Aside0 (Below w.heap.size w wr))
  case atStart => exact ⟨0, rfl, ⟨by omega⟩, BX, RW, BL⟩
  case round =>
    obtain ⟨k, rfl, hkq, hbx, hrw, hbl⟩ := hrel
    clear BX RW BL
    by_cases hlt : k < L.length
    · have hgrd : decide (k < L.length) = true := decide_eq_true hlt
      have hlt' : (k : Int) < (L.length : Int) := by omega
      have hk0 : (0 : Int) ≤ (k : Int) := by omega
      have PTK := Aside0.mk (HPT.out k hlt)
      have CW := Aside0.mk (Kd.C_below HC.out hbl.out)
      have hc0 := hbx.out.cell
      have hplen : (part L k).length = L.length := part_length L k (Nat.le_of_lt hlt)
      have hold : wr.cell? ⟨w1.heap.size + 1, k, none⟩ = some (.int .u64 ((part L k)[k]'(by omega))) := by
        rw [blk_cell hrw.out k]
        simp [encs, hplen, hlt]
      have hfr : wr.frozen? ⟨w1.heap.size + 1, k, none⟩ = false := blk_frozen hrw.out k
      obtain ⟨u0, hu0⟩ : ∃ u0, u0 = (part L k)[k]'(by omega) := ⟨_, rfl⟩
      rw [← hu0] at hold
      obtain ⟨x, hx⟩ : ∃ x, x = L[k] := ⟨_, rfl⟩
      have PK := PTK.out
      rw [← hx] at PK
      have PX := Aside0.mk PK
      have HXX := Aside0.mk hx
      have NB := Aside0.mk (show w1.heap.size + 1 < wr.heap.size ∧ w1.heap.size + 1 + 1 < wr.heap.size from ⟨blk_lt hrw.out, hbx.out.lt⟩)
      clear PTK PK hu0 hx hplen
      go_wp2_with fail
      go_region_with
        (first
          | (go_at_call 20; refine (Ptr_c (Kd.C_drew CW.out) HD.out HB.out HL.out PX.out).mono ?_; rintro e w2 ⟨rfl, hb2⟩; have q0 := (hb2.cell (p := ⟨w1.heap.size + 1 + 1, 0, none⟩) NB.out.2).trans hc0; have q1 := (hb2.cell (p := ⟨w1.heap.size + 1, k, none⟩) NB.out.1).trans hold; have q2 := (hb2.frozen (p := ⟨w1.heap.size + 1, k, none⟩) NB.out.1).trans hfr; have K2 := Aside0.mk hb2; clear hb2))
      all_goals
        go_wp2
        go_roundg (gk - 1)
        case measure => have := hkq.out; omega
        case rel =>
          have hb : Below w.heap.size w w2 := (below_drew hbl.out).trans (K2.out.mono hbl.out.size)
          have h2 := (K2.out.block (w1.heap.size + 1) NB.out.1).trans hrw.out
          have hb2 := (K2.out.block (w1.heap.size + 1 + 1) NB.out.2).trans hbx.out
          refine ⟨k + 1, by go_num, ⟨by have := hkq.out; omega⟩, ⟨?_⟩, ⟨?_⟩, ⟨hb.setCell (Nat.le_trans K1.out.size (by simp)) _⟩⟩
          · exact (Below.heap_setCell _ _ _ _ (by simp)).trans hb2
          · rw [blk_set h2 k, encs_set, HXX.out, part_set L k hlt]
    · have hge : decide (k < L.length) = false := decide_eq_false hlt
      have hge2 : L.length ≤ k := by omega
      have hkk : k = L.length := by have := hkq.out; omega
      have HK := Aside0.mk hkk
      clear hkk hlt
      go_wp2
      go_ret
      have hr := hrw.out
      rw [HK.out, part_all] at hr
      have hs := K1.out.size
      exact ⟨_, _, rfl, hbx.out, hr, by omega, by omega, hbl.out⟩
end
end Go.Proofs.Ytckdnkiacnonkaa.Pure
