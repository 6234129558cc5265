/- Rows of noughts that are made; a new disk: walked. -/
import Derived.Test.YthnadkdfgckijaaDkW
import Derived.Test.YthnadkdfgckijaaOwn
import Derived.Laws.OwnMore
namespace Go.Proofs.Ythnadkdfgckijaa.Pure
open Go.RowKit Go.Proofs.Ythnadkdfgckijaa Go.Proofs.Ythnadkdfgckijaa.PAll Go.Proofs.Ythnadkdfgckijaa.Mem Go.Proofs.YthnadkdfgckijaaW.PrintWords Go.Proofs.YthnadkdfgckijaaW.PrintLast Go.Proofs.YthnadkdfgckijaaW.PrintMore
set_option linter.unusedVariables false
set_option linter.unusedSimpArgs false
set_option linter.unusedSectionVars false

/-- Cells that are all alike. -/
@[irreducible] def rowOf (z : Value) (n : Nat) : Array Value := (List.replicate n z).toArray
theorem rowOf_eq (z : Value) (n : Nat) : rowOf z n = (List.replicate n z).toArray := by unfold rowOf; rfl
theorem info26 : (Try.prog.info? 26).map (fun i => (i.zero, i.size, i.bytes)) = some (some (.slice none 0 0), 1, 24) := by kernel_rfl
theorem made_eq (z : Value) (n : Nat) : madeCells #[z] n = rowOf z n := by
  apply Array.toList_inj.1
  rw [toList_madeCells_one, rowOf_eq]
theorem mk26n (n : Nat) (hn : n ≤ 1000000) (W : World) : (Instr.makeSlice 26 (.int .i64 (n : Int)) (.int .i64 (n : Int))).run Try.prog W = .ok (.slice (some ⟨W.heap.size, 0, none⟩) n n) (W.alloc (.cells (rowOf (.int .u8 0) n) 5)) := by
  obtain ⟨i, h1, hz⟩ := Option.map_eq_some_iff.1 info5
  simp only [Prod.mk.injEq] at hz
  obtain ⟨h2, h3, h4⟩ := hz
  have := run_make (P := Try.prog) W 26 5 i (.int .u8 0) Try.underlying26 h1 h2 .i64 .i64 (n : Int) (n : Int) (by omega) (Int.le_refl _) (by rw [h4]; omega) (by omega)
  rw [this, h3, show (Value.int IntKind.u8 0).cells = #[.int .u8 0] from rfl, made_eq]
  simp
set_option maxRecDepth 10000 in
theorem mk26 (W : World) : (Instr.makeSlice 26 (.int .i64 256) (.int .i64 256)).run Try.prog W = .ok (.slice (some ⟨W.heap.size, 0, none⟩) 256 256) (W.alloc (.cells (rowOf (.int .u8 0) 256) 5)) := mk26n 256 (by decide) W
theorem mk52n (n : Nat) (hn : n ≤ 1000000) (W : World) : (Instr.makeSlice 52 (.int .i64 (n : Int)) (.int .i64 (n : Int))).run Try.prog W = .ok (.slice (some ⟨W.heap.size, 0, none⟩) n n) (W.alloc (.cells (rowOf (.slice none 0 0) n) 26)) := by
  obtain ⟨i, h1, hz⟩ := Option.map_eq_some_iff.1 info26
  simp only [Prod.mk.injEq] at hz
  obtain ⟨h2, h3, h4⟩ := hz
  have := run_make (P := Try.prog) W 52 26 i (.slice none 0 0) Try.underlying52 h1 h2 .i64 .i64 (n : Int) (n : Int) (by omega) (Int.le_refl _) (by rw [h4]; omega) (by omega)
  rw [this, h3, show (Value.slice none 0 0).cells = #[.slice none 0 0] from rfl, made_eq]
  simp
def zer (n : Nat) : List Int := List.replicate n 0
theorem zer_len (n : Nat) : (zer n).length = n := by simp [zer]
theorem zer_bytes (n : Nat) : Bytes (zer n) := fun x h => by rw [List.eq_of_mem_replicate h]; decide
theorem rowOf_enc (n : Nat) : rowOf (.int .u8 0) n = (encs (Value.int .u8) (zer n)).toArray := by rw [rowOf_eq]; simp [encs, zer]
theorem own_new {w : World} {n : Nat} (hn : n ≤ 1000000) : Own (w.alloc (.cells (rowOf (.int .u8 0) n) 5)) w.heap.size (some ⟨w.heap.size, 0, none⟩) n (zer n) := by
  have hg := heap_new w (.cells (rowOf (.int .u8 0) n) 5)
  rw [rowOf_enc] at hg ⊢
  refine ⟨by rw [zer_len]; exact Nat.le_refl _, ?_, fun _ => ⟨w.heap.size, _, rfl, Nat.le_refl _, hg, ?_⟩⟩
  · exact blk_C (enc := Value.int .u8) (h1 := fun _ => rfl) hg (by rw [List.drop_zero, zer_len]; exact List.take_of_length_le (by simp [encs, zer])) (by rw [zer_len]; omega)
  · rw [zer_len]; exact List.take_of_length_le (by simp [encs, zer])
/-- A byte is stored into a row. -/
theorem own_set {w : World} {base g : Nat} {c : Nat} {l : List Int} (h : Own w base (some ⟨g, 0, none⟩) c l) {k : Nat} (hk : k < l.length) (x : Int) : Own (w.setCell ⟨g, k, none⟩ (.int .u8 x)) base (some ⟨g, 0, none⟩) c (l.set k x) := by
  obtain ⟨g', cur, h1, h2, h3, h4⟩ := h.blk (by omega)
  injection h1 with h1
  injection h1 with h1
  subst h1
  have hs := blk_set h3 k (.int .u8 x)
  have ht : (cur.set k (.int .u8 x)).take l.length = encs (Value.int .u8) (l.set k x) := by
    rw [List.take_set, h4]
    simp [encs]
  rw [List.setIfInBounds_toArray] at hs
  refine ⟨by rw [List.length_set]; exact h.cap, ?_, fun _ => ⟨g, _, rfl, h2, hs, by rw [List.length_set]; exact ht⟩⟩
  exact blk_C (enc := Value.int .u8) (h1 := fun _ => rfl) hs (by rw [List.drop_zero, List.length_set]; exact ht) (by rw [List.length_set]; exact h.C.2.1)
theorem own_cell {w : World} {base g : Nat} {c : Nat} {l : List Int} (h : Own w base (some ⟨g, 0, none⟩) c l) {k : Nat} (hk : k < l.length) : w.cell? ⟨g, k, none⟩ = some (.int .u8 l[k]) ∧ w.frozen? ⟨g, k, none⟩ = false := by
  obtain ⟨g', cur, h1, h2, h3, h4⟩ := h.blk (by omega)
  injection h1 with h1
  injection h1 with h1
  subst h1
  refine ⟨?_, blk_frozen h3 k⟩
  rw [blk_cell h3]
  have := getD_of (L := cur) (xs := l) (o := 0) (enc := Value.int .u8) (by simpa using h4) k hk
  rw [Nat.zero_add] at this
  simpa using this
attribute [local go_sem high] mk26 mk26n mk52n
/-- A new disk. -/
def newS (n : Nat) : DS := { B := List.replicate n (zer 256), P := [], off := false, ops := 0, armed := 0, picks := [] }
theorem new_bad (w : World) (n : Int) (h : n < 1 ∨ 2048 < n) : Calls Try.prog 35 #[.int .i64 n] w fun e w' => e = .returned (.tuple #[.pointer none, .int .i64 1]) ∧ Below w.heap.size w w' := by
  rcases h with h | h
  · have e1 : decide (n < 1) = true := by simpa using h
    clear h
    go_enter Try.func35, Try.ntmps35
    go_wp2_with fail
    go_ret2
    exact ⟨rfl, Below.refl _ _⟩
  · have e1 : decide (n < 1) = false := by simpa using (by omega : 1 ≤ n)
    have e2 : decide (2048 < n) = true := by simpa using h
    clear h
    go_enter Try.func35, Try.ntmps35
    go_wp2_with fail
    go_ret2
    exact ⟨rfl, Below.refl _ _⟩
/-- The blocks' row, when k of them are made. -/
@[irreducible] def curN (s0 n k : Nat) : List Value := (List.range n).map (fun i => if i < k then .slice (some ⟨s0 + i, 0, none⟩) 256 256 else .slice none 0 0)
theorem curN_at (s0 n k i : Nat) (h : i < n) : (curN s0 n k)[i]? = some (if i < k then .slice (some ⟨s0 + i, 0, none⟩) 256 256 else .slice none 0 0) := by
  unfold curN
  simp [h]
theorem curN_zero (s0 n : Nat) : curN s0 n 0 = List.replicate n (.slice none 0 0) := by
  unfold curN
  apply List.ext_getElem?
  intro i
  by_cases h : i < n
  · simp [h]
  · simp [h]
theorem curN_set (s0 n k : Nat) (h : k < n) : (curN s0 n k).set k (.slice (some ⟨s0 + k, 0, none⟩) 256 256) = curN s0 n (k + 1) := by
  unfold curN
  apply List.ext_getElem?
  intro i
  rw [List.getElem?_set]
  by_cases hi : k = i
  · subst hi
    simp [h]
  · rw [if_neg hi]
    by_cases hn : i < n
    · simp only [List.getElem?_map, List.getElem?_range hn, Option.map_some]
      have : (i < k) = (i < k + 1) := by apply propext; omega
      simp only [this]
    · simp [hn]
structure NewAt (w0 w' : World) (gB gD s0 n k : Nat) : Prop where
  size : w'.heap.size = s0 + k
  rows : ∀ i, i < k → w'.heap[s0 + i]? = some (.cells (rowOf (.int .u8 0) 256) 5 (0, 0))
  blk : w'.heap[gB]? = some (.cells (curN s0 n k).toArray 26 (0, 0))
  dsk : w'.heap[gD]? = some (.cells (dkCs (some ⟨gB, 0, none⟩) n n (.slice none 0 0) (.bool false) (.int .i64 0) (.int .i64 0) (.slice none 0 0)) 55 (0, 0))
  below : Below w0.heap.size w0 w'
  ne : gB < s0 ∧ gD < s0 ∧ gB ≠ gD ∧ w0.heap.size ≤ gB ∧ w0.heap.size ≤ gD
theorem NewAt.step {w0 w' : World} {gB gD s0 n k : Nat} (h : NewAt w0 w' gB gD s0 n k) (hk : k < n) : NewAt w0 ((w'.alloc (.cells (rowOf (.int .u8 0) 256) 5)).setCell ⟨gB, k, none⟩ (.slice (some ⟨s0 + k, 0, none⟩) 256 256)) gB gD s0 n (k + 1) := by
  obtain ⟨h1, h2, h3, h4, h5, h6⟩ := h
  have hbn := (Below.refl w'.heap.size w').alloc (Nat.le_refl _) (.cells (rowOf (.int .u8 0) 256) 5)
  have o : ∀ i, i ≠ gB → ((w'.alloc (.cells (rowOf (.int .u8 0) 256) 5)).setCell ⟨gB, k, none⟩ (.slice (some ⟨s0 + k, 0, none⟩) 256 256)).heap[i]? = (w'.alloc (.cells (rowOf (.int .u8 0) 256) 5)).heap[i]? := fun i hi => Below.heap_setCell _ ⟨gB, k, none⟩ _ i hi
  refine ⟨by simp [World.setCell, h1]; omega, fun i hi => ?_, ?_, ?_, ?_, h6⟩
  · rw [o _ (by omega)]
    by_cases e : i = k
    · subst e
      rw [← h1]
      exact heap_new w' _
    · exact (hbn.block _ (by omega)).trans (h2 i (by omega))
  · have := blk_set ((hbn.block _ (blk_lt h3)).trans h3) k (.slice (some ⟨s0 + k, 0, none⟩) 256 256)
    rw [List.setIfInBounds_toArray, curN_set _ _ _ hk] at this
    exact this
  · rw [o _ (Ne.symm h6.2.2.1)]
    exact (hbn.block _ (blk_lt h4)).trans h4
  · exact ((h5.trans (hbn.mono h5.size))).setCell (p := ⟨gB, k, none⟩) h6.2.2.2.1 _
theorem NewAt.drew {w0 w' : World} {gB gD s0 n k : Nat} (h : NewAt w0 w' gB gD s0 n k) : NewAt w0 w'.drew gB gD s0 n k := ⟨h.size, h.rows, h.blk, h.dsk, h.below.drew, h.ne⟩
theorem NewAt.dk {w0 w' : World} {gB gD s0 n : Nat} (h : NewAt w0 w' gB gD s0 n n) (hn : 0 < n) : DK w' gD (fun k => w0.heap.size ≤ k ∧ k < w'.heap.size) (newS n) := by
  obtain ⟨h1, h2, h3, h4, h5, h6⟩ := h
  have hl : (newS n).B.length = n := by simp [newS]
  refine ⟨fun k q => q.2, ⟨h6.2.2.2.2, blk_lt h4⟩, penOk_nil _, by rw [hl]; exact hn, some ⟨gB, 0, none⟩, none, n, 0, .slice none 0 0, fun k => w0.heap.size ≤ k ∧ k < w'.heap.size ∧ k ≠ gD, fun _ => False, fun _ => False, ?_, ?_, R_none _ _, F_none _ _, Nat.le_refl _, fun k q => ⟨⟨q.1, q.2.1⟩, q.2.2⟩, fun k q => q.elim, fun k q => q.elim⟩
  · rw [hl]; exact h4
  · refine ⟨fun b hb => ?_, gB, fun i => s0 + i, fun _ => 256, curN s0 n n, rfl, by rw [hl]; exact Nat.le_refl _, ⟨h6.2.2.2.1, blk_lt h3, h6.2.2.1⟩, h3, fun i hi => ?_, fun i j _ _ e => Nat.add_left_cancel e⟩
    · rw [List.eq_of_mem_replicate hb]
      exact ⟨zer_len _, zer_bytes _⟩
    · rw [hl] at hi
      refine ⟨by rw [curN_at _ _ _ _ hi, if_pos hi], Nat.le_refl _, (show w0.heap.size ≤ s0 + i ∧ s0 + i < w'.heap.size ∧ s0 + i ≠ gD from by omega), by show s0 + i ≠ gB; omega, encs (Value.int .u8) (zer 256), by rw [h2 i hi, rowOf_enc], ?_⟩
      rw [show (newS n).B.getD i [] = zer 256 by unfold newS; show (List.replicate n (zer 256)).getD i [] = zer 256; rw [List.getD_eq_getElem?_getD, List.getElem?_replicate, if_pos hi]; rfl]
      exact List.take_of_length_le (by rw [encs, List.length_map, zer_len]; exact Nat.le_refl _)
set_option maxRecDepth 100000 in
set_option maxHeartbeats 16000000 in
theorem new_ok (w : World) (N : Nat) (h1 : 1 ≤ N) (h2 : N ≤ 2048) : Calls Try.prog 35 #[.int .i64 (N : Int)] w fun e w' => ∃ g, e = .returned (.tuple #[.pointer (some ⟨g, 0, none⟩), .int .i64 0]) ∧ w.heap.size ≤ g ∧ DK w' g (fun k => w.heap.size ≤ k ∧ k < w'.heap.size) (newS N) ∧ Below w.heap.size w w' := by
  have e1 : decide ((N : Int) < 1) = false := by simpa using (by omega : (1 : Int) ≤ (N : Int))
  have e2 : decide (2048 < (N : Int)) = false := by simpa using (by omega : (N : Int) ≤ 2048)
  have hN : N ≤ 1000000 := by omega
  have BN := Aside0.mk (And.intro h1 h2)
  clear h1 h2
  go_enter Try.func35, Try.ntmps35
  go_wp2_with fail
  obtain ⟨w2, hw2⟩ : ∃ x, x = ((w.alloc (Obj.cells (rowOf (Value.slice none 0 0) N) 26)).alloc (Obj.cells #[Value.slice (some { block := w.heap.size, off := 0 }) N N, Value.slice none 0 0, Value.bool false, Value.int IntKind.i64 0, Value.int IntKind.i64 0, Value.slice none 0 0] 55)) := ⟨_, rfl⟩
  have J0 := Aside0.mk (show NewAt w w2 w.heap.size (w.heap.size + 1) (w.heap.size + 1 + 1) N 0 from by
    have n1 := heap_new w (Obj.cells (rowOf (Value.slice none 0 0) N) 26)
    have n2 := heap_new (w.alloc (Obj.cells (rowOf (Value.slice none 0 0) N) 26)) (Obj.cells #[Value.slice (some { block := w.heap.size, off := 0 }) N N, Value.slice none 0 0, Value.bool false, Value.int IntKind.i64 0, Value.int IntKind.i64 0, Value.slice none 0 0] 55)
    rw [World.size_alloc] at n2
    rw [hw2]
    refine ⟨by simp, fun i hi => absurd hi (by omega), ?_, n2, ((Below.refl w.heap.size w).alloc (Nat.le_refl _) _).alloc (by simp) _, by omega⟩
    rw [curN_zero, ← rowOf_eq]
    exact (Below.heap_alloc _ _ w.heap.size (by simp)).trans n1)
  rw [← hw2]
  clear hw2
  obtain ⟨gB, hgB⟩ : ∃ x, x = w.heap.size := ⟨_, rfl⟩
  obtain ⟨gD, hgD⟩ : ∃ x, x = w.heap.size + 1 := ⟨_, rfl⟩
  obtain ⟨s0, hs0⟩ : ∃ x, x = w.heap.size + 1 + 1 := ⟨_, rfl⟩
  rw [← hs0, ← hgD, ← hgB] at J0
  rw [← hgD, ← hgB]
  have GD := Aside0.mk (show w.heap.size ≤ gD from by omega)
  clear hs0 hgD hgB e1 e2
  go_loopg [21] N (fun q v w' => ∃ (k : Nat), v = .int .i64 (k : Int) ∧ Aside0 (k + q = N) ∧ Aside0 (NewAt w w' gB gD s0 N k))
  case atStart => exact ⟨0, rfl, ⟨Nat.zero_add _⟩, J0⟩
  case round =>
    clear J0
    obtain ⟨k, rfl, HJ, JJ⟩ := hrel
    by_cases hlt : k < N
    case pos =>
      have hgd := (di_t hlt).1
      have hgd2 := (di_t hlt).2
      have HN := Aside0.mk (st_n HJ.out hlt).1
      have HM := Aside0.mk (st_n HJ.out hlt).2
      have HV := Aside0.mk (stepv hlt (by omega))
      have J1 := Aside0.mk (JJ.out.step hlt)
      obtain ⟨z0, z1, z2, z3, z4, z5⟩ := dk_cells JJ.out.dsk
      have c0 : wr.cell? ⟨gB, k, none⟩ = some (.slice none 0 0) := by rw [blk_cell JJ.out.blk]; simpa using (curN_at s0 N k k hlt).trans (by rw [if_neg (Nat.lt_irrefl _)])
      have f0 := blk_frozen JJ.out.blk k
      have hbn := (Below.refl wr.heap.size wr).alloc (Nat.le_refl _) (.cells (rowOf (.int .u8 0) 256) 5)
      have hga := (hbn.block _ (blk_lt JJ.out.blk)).trans JJ.out.blk
      have hda := (hbn.block _ (blk_lt JJ.out.dsk)).trans JJ.out.dsk
      have d0 := (dk_cells hda).1
      have d1 : (wr.alloc (.cells (rowOf (.int .u8 0) 256) 5)).cell? ⟨gB, k, none⟩ = some (.slice none 0 0) := by rw [blk_cell hga]; simpa using (curN_at s0 N k k hlt).trans (by rw [if_neg (Nat.lt_irrefl _)])
      have d2 := blk_frozen hga k
      clear hbn hga hda z1 z2 z3 z4 z5
      go_upto_region 7 with fail
      go_region
      have e9 : s0 + k = wr.heap.size := JJ.out.size.symm
      have JN := Aside0.mk J1.out.drew
      rw [e9] at JN
      clear z0 c0 f0 d0 d1 d2 e9 J1
      obtain ⟨wn, hwn⟩ : ∃ x, x = ((wr.alloc (Obj.cells (rowOf (Value.int IntKind.u8 0) 256) 5)).setCell { block := gB, off := k } (Value.slice (some { block := wr.heap.size, off := 0 }) 256 256)).drew := ⟨_, rfl⟩
      rw [← hwn] at JN ⊢
      clear hwn
      go_wp2_with fail
      go_roundg (gk - 1)
      case measure => exact HM.out
      case rel => exact ⟨k + 1, by first | exact HV.out | rfl, HN, JN⟩
    have hke : k = N := en_k HJ.out hlt
    subst hke
    have hge := (di_f (rfl : k = k)).1
    have DD := Aside0.mk (JJ.out.dk BN.out.1)
    have BB := Aside0.mk JJ.out.below
    clear hlt JJ
    go_wp2_with fail
    go_ret2
    exact ⟨_, rfl, GD.out, DD.out, BB.out⟩
end Go.Proofs.Ythnadkdfgckijaa.Pure
