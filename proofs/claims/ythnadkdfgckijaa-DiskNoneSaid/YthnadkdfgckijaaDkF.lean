/- What an operation of a script writes: walked; two rows compared. -/
import Derived.Test.YthnadkdfgckijaaDkN
import Derived.Test.YthnadkdfgckijaaPEq
import Derived.Lib.Bytes
namespace Go.Proofs.Ythnadkdfgckijaa.Pure
open Go.RowKit Go.Proofs.Ythnadkdfgckijaa Go.Proofs.Ythnadkdfgckijaa.PAll Go.Proofs.Ythnadkdfgckijaa.Mem Go.Proofs.YthnadkdfgckijaaW.PrintWords Go.Proofs.YthnadkdfgckijaaW.PrintLast Go.Proofs.YthnadkdfgckijaaW.PrintMore
set_option linter.unusedVariables false
set_option linter.unusedSimpArgs false
set_option linter.unusedSectionVars false

theorem ofNat_inj8 {x y : Int} (hx : 0 ≤ x ∧ x < 256) (hy : 0 ≤ y ∧ y < 256) (h : UInt8.ofNat x.toNat = UInt8.ofNat y.toNat) : x = y := by
  have h2 := congrArg UInt8.toNat h
  simp only [UInt8.toNat_ofNat'] at h2
  omega
theorem map8_inj : ∀ (x y : List Int), Bytes x → Bytes y → (x.map fun n => UInt8.ofNat n.toNat) = (y.map fun n => UInt8.ofNat n.toNat) → x = y
  | [], [], _, _, _ => rfl
  | [], _ :: _, _, _, h => by simp at h
  | _ :: _, [], _, _, h => by simp at h
  | a :: x, b :: y, hx, hy, h => by
    simp only [List.map_cons, List.cons.injEq] at h
    rw [ofNat_inj8 (hx a (by simp)) (hy b (by simp)) h.1, map8_inj x y (fun z hz => hx z (by simp [hz])) (fun z hz => hy z (by simp [hz])) h.2]
theorem str_eq {x y : List Int} (hx : Bytes x) (hy : Bytes y) : ((strOfNums x).toList == (strOfNums y).toList) = decide (x = y) := by
  by_cases h : x = y
  · subst h
    simp
  · rw [decide_eq_false h, Go.Lib.strOfNums_toList, Go.Lib.strOfNums_toList, beq_eq_false_iff_ne]
    intro e
    exact h (map8_inj x y hx hy e)
theorem equal_c {w : World} {A0 A1 : Option Addr} {c0 c1 n0 n1 : Nat} {a b : List Int} (h0 : Kd.C (Kd.int .u8) w A0 a.length a) (h1 : Kd.C (Kd.int .u8) w A1 b.length b) (e0 : a.length = n0) (e1 : b.length = n1) (k0 : n0 ≤ c0) (k1 : n1 ≤ c1) (ha : Bytes a) (hb : Bytes b) :
    Calls Try.prog 20 #[.slice A0 n0 c0, .slice A1 n1 c1] w fun e w' => e = .returned (.bool (decide (a = b))) ∧ Below w.heap.size w w' := by
  subst e0 e1
  refine (bytes_Equal.calls A0 c0 a A1 c1 b _ w h0 k0 h1 k1 rfl).mono ?_
  rintro e w' ⟨rfl, hd⟩
  exact ⟨by rw [str_eq ha hb], drawn_below hd⟩
set_option maxRecDepth 10000 in
theorem mk26_600 (W : World) : (Instr.makeSlice 26 (.int .i64 600) (.int .i64 600)).run Try.prog W = .ok (.slice (some ⟨W.heap.size, 0, none⟩) 600 600) (W.alloc (.cells (rowOf (.int .u8 0) 600) 5)) := mk26n 600 (by decide) W
attribute [local go_sem high] mk26 mk26n mk52n mk26_600
/-- A block whose sectors are of one byte each, when k bytes are there. -/
def fillG (n : Nat) (c : Int) (k : Nat) : List Int := (List.range n).map (fun j => if j < k then (c + (j : Int) / 64) % 256 else 0)
@[irreducible] def fillK (c : Int) (k : Nat) : List Int := fillG 256 c k
def fillL (c : Int) : List Int := fillK c 256
theorem fillG_zero (n : Nat) (c : Int) : fillG n c 0 = zer n := by
  unfold fillG zer
  apply List.ext_getElem?
  intro i
  by_cases h : i < n
  · simp [h]
  · simp [h]
theorem fillG_set (n : Nat) (c : Int) (k : Nat) (h : k < n) : (fillG n c k).set k ((c + (k : Int) / 64) % 256) = fillG n c (k + 1) := by
  unfold fillG
  apply List.ext_getElem?
  intro i
  rw [List.getElem?_set]
  by_cases hi : k = i
  · subst hi
    simp [h]
  · rw [if_neg hi]
    by_cases hn : i < n
    · simp only [List.getElem?_map, List.getElem?_range hn, Option.map_some]
      have : (i < k) = (i < k + 1) := by apply propext; omega
      simp only [this]
    · simp [hn]
theorem fillG_len (n : Nat) (c : Int) (k : Nat) : (fillG n c k).length = n := by simp [fillG]
theorem fillK_len (c : Int) (k : Nat) : (fillK c k).length = 256 := by unfold fillK; exact fillG_len _ _ _
theorem fillL_len (c : Int) : (fillL c).length = 256 := fillK_len c 256
theorem fillK_zero (c : Int) : fillK c 0 = zer 256 := by unfold fillK; exact fillG_zero _ _
theorem fillK_set (c : Int) (k : Nat) (h : k < 256) : (fillK c k).set k ((c + (k : Int) / 64) % 256) = fillK c (k + 1) := by unfold fillK; exact fillG_set _ _ _ h
theorem fillL_bytes (c : Int) : Bytes (fillL c) := by
  intro x hx
  unfold fillL fillK fillG at hx
  simp only [List.mem_map, List.mem_range] at hx
  obtain ⟨j, hj, rfl⟩ := hx
  rw [if_pos hj]
  omega
set_option maxRecDepth 100000 in
set_option maxHeartbeats 16000000 in
theorem filled_c (w : World) (c : Int) : Calls Try.prog 38 #[.int .u8 c] w fun e w' => ∃ gY, e = .returned (.slice (some ⟨gY, 0, none⟩) 256 256) ∧ Own w' w.heap.size (some ⟨gY, 0, none⟩) 256 (fillL c) ∧ Below w.heap.size w w' := by
  go_enter Try.func38, Try.ntmps38
  go_wp2_with fail
  obtain ⟨w2, hw2⟩ : ∃ x, x = w.alloc (Obj.cells (rowOf (Value.int IntKind.u8 0) 256) 5) := ⟨_, rfl⟩
  have O0 := Aside0.mk (show Own w2 w.heap.size (some ⟨w.heap.size, 0, none⟩) 256 (fillK c 0) from by rw [hw2, fillK_zero]; exact own_new (by decide))
  have B0 := Aside0.mk (show Below w.heap.size w w2 from by rw [hw2]; exact (Below.refl w.heap.size w).alloc (Nat.le_refl _) _)
  rw [← hw2]
  clear hw2
  obtain ⟨gY, hgY⟩ : ∃ x, x = w.heap.size := ⟨_, rfl⟩
  have GY := Aside0.mk (show w.heap.size ≤ gY from Nat.le_of_eq hgY.symm)
  rw [← hgY]
  have O1 := Aside0.mk (show Own w2 w.heap.size (some ⟨gY, 0, none⟩) 256 (fillK c 0) from by rw [hgY]; exact O0.out)
  clear O0 hgY
  go_loopg [8] 256 (fun q v w' => ∃ (k : Nat), v = .int .i64 (k : Int) ∧ Aside0 (k + q = 256) ∧ Aside0 (Own w' w.heap.size (some ⟨gY, 0, none⟩) 256 (fillK c k)) ∧ Aside0 (Below w.heap.size w w'))
  case atStart => exact ⟨0, rfl, ⟨Nat.zero_add _⟩, O1, B0⟩
  case round =>
    clear O1 B0
    obtain ⟨k, rfl, HJ, JJ, BB⟩ := hrel
    by_cases hlt : k < 256
    case pos =>
      have hgd : decide ((k : Int) < 256) = true := (di_t hlt).1
      have hgd2 : decide (k < 256) = true := (di_t hlt).2
      have HN := Aside0.mk (st_n HJ.out hlt).1
      have HM := Aside0.mk (st_n HJ.out hlt).2
      have HV := Aside0.mk (stepv hlt (by decide))
      obtain ⟨c0, f0⟩ := own_cell JJ.out (show k < (fillK c k).length by rw [fillK_len]; exact hlt)
      have JN := Aside0.mk (own_set JJ.out (show k < (fillK c k).length by rw [fillK_len]; exact hlt) ((c + (k : Int) / 64) % 256))
      rw [fillK_set c k hlt] at JN
      have BN := Aside0.mk (BB.out.setCell (p := ⟨gY, k, none⟩) GY.out (.int .u8 ((c + (k : Int) / 64) % 256)))
      go_wp2_with fail
      go_roundg (gk - 1)
      case measure => exact HM.out
      case rel => exact ⟨k + 1, by first | exact HV.out | rfl, HN, JN, BN⟩
    have hke : k = 256 := en_k HJ.out hlt
    subst hke
    have hge : decide (((256 : Nat) : Int) < 256) = false := by decide
    clear hlt
    go_wp2_with fail
    go_ret
    exact ⟨_, rfl, JJ.out, BB.out⟩
/-- What an operation writes. -/
def blockL (fill len : Int) : List Int := if 0 ≤ len then zer (min len 600).toNat else fillL fill
theorem blockL_bytes (fill len : Int) : Bytes (blockL fill len) := by
  unfold blockL
  split
  · exact zer_bytes _
  · exact fillL_bytes _
theorem blockL_len (fill len : Int) : (blockL fill len).length ≤ 600 := by
  unfold blockL
  split
  · rw [zer_len]; omega
  · rw [fillL_len]; decide
set_option maxRecDepth 100000 in
set_option maxHeartbeats 16000000 in
theorem block_c (w : World) (o1 o2 fill len o5 : Int) (o6 : Value) : Calls Try.prog 17 #[.agg #[.int .i64 o1, .int .i64 o2, .int .u8 fill, .int .i64 len, .int .i64 o5, o6]] w fun e w' => ∃ gY, e = .returned (.slice (some ⟨gY, 0, none⟩) (blockL fill len).length (blockL fill len).length) ∧ Own w' w.heap.size (some ⟨gY, 0, none⟩) (blockL fill len).length (blockL fill len) ∧ Below w.heap.size w w' := by
  obtain ⟨r, hr⟩ : ∃ r, r = blockL fill len := ⟨_, rfl⟩
  rw [← hr]
  unfold blockL at hr
  by_cases h : 0 ≤ len
  · rw [if_pos h] at hr
    have e1 : decide (0 ≤ len) = true := by simpa using h
    by_cases h6 : len ≤ 600
    · obtain ⟨m, rfl⟩ : ∃ m : Nat, len = (m : Int) := ⟨len.toNat, by omega⟩
      rw [show (min (m : Int) 600).toNat = m by omega] at hr
      subst hr
      have hm3 : m ≤ 1000000 := by omega
      have hm4 : (m : Int) ≤ 600 := h6
      have HM := Aside0.mk hm3
      clear h h6
      have OO := Aside0.mk (show Own ((w.alloc (.cells #[.int .i64 o1, .int .i64 o2, .int .u8 fill, .int .i64 (m : Int), .int .i64 o5, o6] 29)).alloc (.cells (rowOf (.int .u8 0) m) 5)) w.heap.size (some ⟨w.heap.size + 1, 0, none⟩) m (zer m) from by
        have h := own_lower (own_new (w := w.alloc (.cells #[.int .i64 o1, .int .i64 o2, .int .u8 fill, .int .i64 (m : Int), .int .i64 o5, o6] 29)) (n := m) HM.out) (b0 := w.heap.size) (by simp)
        rw [World.size_alloc] at h
        exact h)
      have BB := Aside0.mk (((Below.refl w.heap.size w).alloc (Nat.le_refl _) (.cells #[.int .i64 o1, .int .i64 o2, .int .u8 fill, .int .i64 (m : Int), .int .i64 o5, o6] 29)).alloc (by simp) (.cells (rowOf (.int .u8 0) m) 5))
      clear HM
      go_enter Try.func17, Try.ntmps17
      go_wp2_with fail
      go_ret
      rw [zer_len]
      exact ⟨_, rfl, OO.out, BB.out⟩
    · rw [show (min len 600).toNat = 600 by omega] at hr
      subst hr
      have h7 : 600 < len := by omega
      have HM := Aside0.mk (show 600 ≤ 1000000 by decide)
      clear h h6
      have OO := Aside0.mk (show Own ((w.alloc (.cells #[.int .i64 o1, .int .i64 o2, .int .u8 fill, .int .i64 len, .int .i64 o5, o6] 29)).alloc (.cells (rowOf (.int .u8 0) 600) 5)) w.heap.size (some ⟨w.heap.size + 1, 0, none⟩) 600 (zer 600) from by
        have h := own_lower (own_new (w := w.alloc (.cells #[.int .i64 o1, .int .i64 o2, .int .u8 fill, .int .i64 len, .int .i64 o5, o6] 29)) (n := 600) HM.out) (b0 := w.heap.size) (by simp)
        rw [World.size_alloc] at h
        exact h)
      have BB := Aside0.mk (((Below.refl w.heap.size w).alloc (Nat.le_refl _) (.cells #[.int .i64 o1, .int .i64 o2, .int .u8 fill, .int .i64 len, .int .i64 o5, o6] 29)).alloc (by simp) (.cells (rowOf (.int .u8 0) 600) 5))
      clear HM
      go_enter Try.func17, Try.ntmps17
      go_wp2_with fail
      go_ret
      rw [zer_len]
      exact ⟨_, rfl, OO.out, BB.out⟩
  · rw [if_neg h] at hr
    subst hr
    have e1 : decide (0 ≤ len) = false := by simpa using h
    clear h
    go_enter Try.func17, Try.ntmps17
    go_wp2_with fail
    refine (filled_c _ fill).mono ?_
    rintro e w2 ⟨gY, rfl, hO, hb⟩
    have hbn := (Below.refl w.heap.size w).alloc (Nat.le_refl _) (.cells #[.int .i64 o1, .int .i64 o2, .int .u8 fill, .int .i64 len, .int .i64 o5, o6] 29)
    have OO := Aside0.mk (own_lower hO (b0 := w.heap.size) (by simp))
    have BB := Aside0.mk (hbn.trans (hb.mono (by simp)))
    clear hO hb hbn
    go_wp2_with fail
    go_ret
    rw [fillL_len]
    exact ⟨_, rfl, OO.out, BB.out⟩
end Go.Proofs.Ythnadkdfgckijaa.Pure
