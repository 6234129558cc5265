/- What a disk reads; what is expected of it, in memory. -/
import Derived.Test.YthnadkdfgckijaaDkP
namespace Go.Proofs.Ythnadkdfgckijaa.Pure
open Go.RowKit Go.Proofs.Ythnadkdfgckijaa Go.Proofs.Ythnadkdfgckijaa.PAll Go.Proofs.Ythnadkdfgckijaa.Mem Go.Proofs.YthnadkdfgckijaaW.PrintWords Go.Proofs.YthnadkdfgckijaaW.PrintLast Go.Proofs.YthnadkdfgckijaaW.PrintMore
set_option linter.unusedVariables false
set_option linter.unusedSimpArgs false
set_option linter.unusedSectionVars false

theorem Dk.ok {w : World} {g : Nat} {s : DS} {V : Nat → Prop} (h : Dk w g s V) : BlkOk s.B ∧ PenOk s.B.length s.P := by
  obtain ⟨U, hU, h0⟩ := h
  obtain ⟨lt, ug, pen, pos, A, Ak, c, ck, vP, FB, FW, FK, h1, h2, h3, h4, h5, h6, h7, h8⟩ := hU
  exact ⟨h2.ok, pen⟩
/-- What is read of a block. -/
def viewS (s : DS) (i : Nat) : List Int := lastW s.P (i : Int) (s.B.getD i [])
theorem lastW_ok {n : Nat} {P : List (Int × List Int)} (h : PenOk n P) (i : Int) : ∀ {d : List Int}, d.length = 256 ∧ Bytes d → (lastW P i d).length = 256 ∧ Bytes (lastW P i d) := by
  induction P with
  | nil => intro d hd; exact hd
  | cons a P ih =>
    intro d hd
    unfold lastW
    rw [List.foldl_cons]
    refine ih (fun x hx => h x (List.mem_cons_of_mem _ hx)) ?_
    split
    · exact (h a (List.mem_cons_self ..)).2.2
    · exact hd
theorem view_ok {s : DS} (hB : BlkOk s.B) (hP : PenOk s.B.length s.P) {i : Nat} (hi : i < s.B.length) : (viewS s i).length = 256 ∧ Bytes (viewS s i) := lastW_ok hP _ (getD_ok hB hi)
theorem read_up {s : DS} {m : Nat} (h : Up m s) {i : Nat} (hi : i < 4) : readS s (i : Int) = (0, viewS s i) := by
  unfold readS
  rw [if_neg (by
    have : placeS s (i : Int) = 0 := by
      unfold placeS
      rw [if_neg (by rw [h.off]; decide), if_neg (by rw [h.B]; omega)]
    rw [this]; decide)]
  rfl
theorem view_put (s : DS) (j : Int) (b : List Int) (ops : Int) (i : Nat) : viewS { s with P := s.P ++ [(j, b)], ops := ops } i = if j = (i : Int) then b else viewS s i := by
  unfold viewS lastW
  show List.foldl _ _ (s.P ++ [(j, b)]) = _
  rw [List.foldl_append]
  rfl
theorem flush_view {n : Nat} : ∀ (P : List (Int × List Int)) (B : List (List Int)), BlkOk B → PenOk n P → B.length = n → ∀ i, i < n → (flushB B P).getD i [] = lastW P (i : Int) (B.getD i [])
  | [], B, _, _, _, i, _ => rfl
  | x :: P, B, hB, hP, hn, i, hi => by
    obtain ⟨h1, h2, h3, h4⟩ := hP x (List.mem_cons_self ..)
    have hx : x.1.toNat < B.length := by omega
    have he : reachB B x 15 = B.set x.1.toNat x.2 := by
      unfold reachB
      rw [mix_15 h3 (getD_ok hB hx).1]
    have ih := flush_view P (reachB B x 15) (reachB_ok hB ⟨h1, by omega, h3, h4⟩ 15) (fun y hy => hP y (List.mem_cons_of_mem _ hy)) (by rw [reachB_len]; exact hn) i hi
    show (flushB (reachB B x 15) P).getD i [] = _
    rw [ih, he]
    unfold lastW
    rw [List.foldl_cons]
    congr 1
    rw [List.getD_eq_getElem?_getD, List.getElem?_set]
    by_cases e : x.1 = (i : Int)
    · rw [if_pos e, if_pos (by omega), if_pos hx]; rfl
    · rw [if_neg e, if_neg (by omega)]; rfl
theorem view_flush {s : DS} (hB : BlkOk s.B) (hP : PenOk s.B.length s.P) (ops : Int) {i : Nat} (hi : i < s.B.length) : viewS { s with B := flushB s.B s.P, P := [], ops := ops } i = viewS s i := flush_view s.P s.B hB hP rfl i hi
theorem view_new {i : Nat} (hi : i < 4) : viewS (newS 4) i = zer 256 := by
  show (List.replicate 4 (zer 256)).getD i [] = _
  rw [List.getD_eq_getElem?_getD, List.getElem?_replicate, if_pos hi]
  rfl
/-- The four rows that are expected: where they lie is H. -/
structure WantAt (W : World) (gw : Nat) (H : Nat → Prop) (v : Nat → List Int) : Prop where
  lt : ∀ k, H k → k < W.heap.size
  hgw : H gw
  out : ∃ (A : Nat → Option Addr) (c : Nat → Nat), W.heap[gw]? = some (.cells #[.slice (A 0) 256 (c 0), .slice (A 1) 256 (c 1), .slice (A 2) 256 (c 2), .slice (A 3) 256 (c 3)] 27 (0, 0)) ∧
    ∀ i, i < 4 → (v i).length = 256 ∧ Bytes (v i) ∧ Own W 0 (A i) (c i) (v i) ∧ ∀ k, OwnF (A i) (v i) k → H k ∧ k ≠ gw
theorem WantAt.fr {W W' : World} {gw : Nat} {H F : Nat → Prop} {v : Nat → List Int} (h : WantAt W gw H v) (hf : Fr F W W') (hn : ∀ k, F k → ¬ H k) : WantAt W' gw H v := by
  obtain ⟨lt, hg, A, c, h1, h2⟩ := h
  refine ⟨fun k q => Nat.lt_of_lt_of_le (lt k q) hf.size, hg, A, c, fr_blk hf h1 (fun q => hn _ q hg), fun i hi => ?_⟩
  obtain ⟨a1, a2, a3, a4⟩ := h2 i hi
  exact ⟨a1, a2, own_fr a3 hf (fun g hp hA q => hn _ q (a4 g ⟨hp, hA⟩).1), a4⟩
theorem WantAt.below {W W' : World} {gw : Nat} {H : Nat → Prop} {v : Nat → List Int} (h : WantAt W gw H v) (hb : Below W.heap.size W W') : WantAt W' gw H v := h.fr (F := fun _ => False) (Fr.of_below hb) (fun _ q => q.elim)
theorem WantAt.cell {W : World} {gw : Nat} {H : Nat → Prop} {v : Nat → List Int} (h : WantAt W gw H v) {i : Nat} (hi : i < 4) : ∃ A c, W.cell? ⟨gw, i, none⟩ = some (.slice A 256 c) ∧ W.frozen? ⟨gw, i, none⟩ = false ∧ (v i).length = 256 ∧ Bytes (v i) ∧ Own W 0 A c (v i) := by
  obtain ⟨lt, hg, A, c, h1, h2⟩ := h
  obtain ⟨a1, a2, a3, a4⟩ := h2 i hi
  refine ⟨A i, c i, ?_, blk_frozen h1 i, a1, a2, a3⟩
  rw [blk_cell h1]
  have hc : i = 0 ∨ i = 1 ∨ i = 2 ∨ i = 3 := by omega
  rcases hc with rfl | rfl | rfl | rfl <;> rfl
/-- A row is put into the place of another one. -/
theorem WantAt.put {W : World} {gw : Nat} {H : Nat → Prop} {v : Nat → List Int} (h : WantAt W gw H v) {j : Nat} (hj : j < 4) {gY c : Nat} {b : List Int} (hb : b.length = 256) (hby : Bytes b) (hO : Own W 0 (some ⟨gY, 0, none⟩) c b) (hgY : gY ≠ gw) {w1 : World} (hw1 : w1 = W.setCell ⟨gw, j, none⟩ (.slice (some ⟨gY, 0, none⟩) 256 c)) (hlt : gY < W.heap.size) :
    WantAt w1 gw (fun k => H k ∨ k = gY) (fun i => if i = j then b else v i) := by
  obtain ⟨lt, hg, A, cc, h1, h2⟩ := h
  have hs : w1.heap.size = W.heap.size := by rw [hw1]; simp [World.setCell]
  have hb1 := blk_set h1 j (.slice (some ⟨gY, 0, none⟩) 256 c)
  have ho : ∀ k, k ≠ gw → w1.heap[k]? = W.heap[k]? := fun k hk => by rw [hw1]; exact Below.heap_setCell _ ⟨gw, j, none⟩ _ k hk
  rw [← hw1] at hb1
  refine ⟨fun k q => by rw [hs]; rcases q with q | q; exact lt k q; rw [q]; exact hlt, .inl hg, fun i => if i = j then some ⟨gY, 0, none⟩ else A i, fun i => if i = j then c else cc i, ?_, fun i hi => ?_⟩
  · rw [hb1]
    have hc : j = 0 ∨ j = 1 ∨ j = 2 ∨ j = 3 := by omega
    rcases hc with rfl | rfl | rfl | rfl <;> rfl
  · by_cases e : i = j
    · subst e
      simp only [if_pos]
      refine ⟨hb, hby, own_kept hO (fun g hp hA => ho g ?_), fun k q => ?_⟩
      · injection hA with hA
        injection hA with hA
        rw [← hA]
        exact hgY
      · obtain ⟨q1, q2⟩ := q
        injection q2 with q2
        injection q2 with q2
        exact ⟨.inr q2.symm, by rw [← q2]; exact hgY⟩
    · simp only [if_neg e]
      obtain ⟨a1, a2, a3, a4⟩ := h2 i hi
      exact ⟨a1, a2, own_kept a3 (fun g hp hA => ho g (a4 g ⟨hp, hA⟩).2), fun k q => ⟨.inl (a4 k q).1, (a4 k q).2⟩⟩
/-- The rows while they are made. -/
structure MadeW (w0 w' : World) (gw s0 k : Nat) : Prop where
  size : w'.heap.size = s0 + k
  rows : ∀ i, i < k → w'.heap[s0 + i]? = some (.cells (rowOf (.int .u8 0) 256) 5 (0, 0))
  blk : w'.heap[gw]? = some (.cells (curN s0 4 k).toArray 27 (0, 0))
  below : Below w0.heap.size w0 w'
  ne : gw < s0 ∧ w0.heap.size ≤ gw
theorem MadeW.step {w0 w' : World} {gw s0 k : Nat} (h : MadeW w0 w' gw s0 k) (hk : k < 4) : MadeW w0 ((w'.alloc (.cells (rowOf (.int .u8 0) 256) 5)).setCell ⟨gw, k, none⟩ (.slice (some ⟨s0 + k, 0, none⟩) 256 256)) gw s0 (k + 1) := by
  obtain ⟨h1, h2, h3, h5, h6⟩ := h
  have hbn := (Below.refl w'.heap.size w').alloc (Nat.le_refl _) (.cells (rowOf (.int .u8 0) 256) 5)
  have o : ∀ i, i ≠ gw → ((w'.alloc (.cells (rowOf (.int .u8 0) 256) 5)).setCell ⟨gw, k, none⟩ (.slice (some ⟨s0 + k, 0, none⟩) 256 256)).heap[i]? = (w'.alloc (.cells (rowOf (.int .u8 0) 256) 5)).heap[i]? := fun i hi => Below.heap_setCell _ ⟨gw, k, none⟩ _ i hi
  refine ⟨by simp [World.setCell, h1]; omega, fun i hi => ?_, ?_, ?_, h6⟩
  · rw [o _ (by omega)]
    by_cases e : i = k
    · subst e
      rw [← h1]
      exact heap_new w' _
    · exact (hbn.block _ (by omega)).trans (h2 i (by omega))
  · have := blk_set ((hbn.block _ (blk_lt h3)).trans h3) k (.slice (some ⟨s0 + k, 0, none⟩) 256 256)
    rw [List.setIfInBounds_toArray, curN_set _ _ _ hk] at this
    exact this
  · exact ((h5.trans (hbn.mono h5.size))).setCell (p := ⟨gw, k, none⟩) h6.2 _
theorem MadeW.done {w0 w' : World} {gw s0 : Nat} (h : MadeW w0 w' gw s0 4) : WantAt w' gw (fun k => k = gw ∨ s0 ≤ k ∧ k < s0 + 4) (fun _ => zer 256) := by
  obtain ⟨h1, h2, h3, h5, h6⟩ := h
  refine ⟨fun k q => by omega, .inl rfl, fun i => some ⟨s0 + i, 0, none⟩, fun _ => 256, ?_, fun i hi => ⟨zer_len _, zer_bytes _, ?_, fun k q => ?_⟩⟩
  · rw [h3]
    unfold curN
    rfl
  · have hg := h2 i hi
    rw [rowOf_enc] at hg
    have ht : List.take (zer 256).length (encs (Value.int .u8) (zer 256)) = encs (Value.int .u8) (zer 256) := List.take_of_length_le (by rw [encs, List.length_map]; exact Nat.le_refl _)
    exact ⟨by rw [zer_len]; exact Nat.le_refl _, blk_C (enc := Value.int .u8) (h1 := fun _ => rfl) hg (by rw [List.drop_zero]; exact ht) (by rw [zer_len]; decide), fun _ => ⟨s0 + i, _, rfl, Nat.zero_le _, hg, ht⟩⟩
  · obtain ⟨q1, q2⟩ := q
    injection q2 with q2
    injection q2 with q2
    omega
end Go.Proofs.Ythnadkdfgckijaa.Pure
