/- Texts of this claim, joined: RfA, RfB, RfS, RfO, DkIm, DkArg, RfW, RfC, RfG. -/
import Derived.Test.YthnadkdfgckijaaMB
import Derived.Test.YthnadkdfgckijaaMA
import Derived.Test.YthnadkdfgckijaaArg
namespace Go.Proofs.Ythnadkdfgckijaa.Pure
open Go.RowKit Go.Proofs.Ythnadkdfgckijaa Go.Proofs.Ythnadkdfgckijaa.PAll Go.Proofs.Ythnadkdfgckijaa.Mem Go.Proofs.YthnadkdfgckijaaW.PrintWords Go.Proofs.YthnadkdfgckijaaW.PrintLast Go.Proofs.YthnadkdfgckijaaW.PrintMore
set_option linter.unusedVariables false
set_option linter.unusedSimpArgs false
set_option linter.unusedSectionVars false

/-- The document's disk at block g; what it is made of lies in U. -/
structure DR (w : World) (g : Nat) (U : Nat → Prop) (s : DS) : Prop where
  lt : ∀ k, U k → k < w.heap.size
  ug : U g
  pen : PenOk s.B.length s.P
  pos : 0 < s.B.length
  out : ∃ (A Ak : Option Addr) (c ck : Nat) (vP : Value) (FB FW FK : Nat → Prop), w.heap[g]? = some (.cells (dkCs A s.B.length c vP (.bool s.off) (.int .i64 s.ops) (.int .i64 s.armed) (.slice Ak s.picks.length ck)) 112 (0, 0)) ∧ RowsAt w A c FB s.B ∧ Kd.R kW 43 w 0 FW vP s.P ∧
    Kd.F (Kd.int .u8) w FK Ak s.picks.length s.picks ∧ s.picks.length ≤ ck ∧ (∀ k, FB k → U k ∧ k ≠ g) ∧ (∀ k, FW k → U k ∧ k ≠ g ∧ ¬ FB k) ∧ (∀ k, FK k → U k ∧ k ≠ g ∧ ¬ FB k ∧ ¬ FW k)
theorem DR.fr {w w' : World} {g : Nat} {U F : Nat → Prop} {s : DS} (h : DR w g U s) (hf : Fr F w w') (hn : ∀ k, U k → ¬ F k) : DR w' g U s := by
  obtain ⟨lt, ug, pen, pos, A, Ak, c, ck, vP, FB, FW, FK, h1, h2, h3, h4, h5, h6, h7, h8⟩ := h
  exact ⟨fun k hk => Nat.lt_of_lt_of_le (lt k hk) hf.size, ug, pen, pos, A, Ak, c, ck, vP, FB, FW, FK, fr_blk hf h1 (hn _ ug), h2.fr hf (fun k hk => hn k (h6 k hk).1), Kd.R_step h3 (fun k hk hlt => hf.block k hlt (hn k (h7 k hk).1)), F_fr h4 hf (fun k hk => hn k (h8 k hk).1), h5, h6, h7, h8⟩
theorem DR.below {w w' : World} {g : Nat} {U : Nat → Prop} {s : DS} (h : DR w g U s) (hb : Below w.heap.size w w') : DR w' g U s := h.fr (F := fun _ => False) (Fr.of_below hb) (fun _ _ h => h)
/-- The document's disk within V. -/
def Dr (w : World) (g : Nat) (s : DS) (V : Nat → Prop) : Prop := ∃ U : Nat → Prop, DR w g U s ∧ ∀ k, U k → V k
theorem Dr.below {w w' : World} {g : Nat} {s : DS} {V : Nat → Prop} (h : Dr w g s V) (hb : Below w.heap.size w w') : Dr w' g s V := by
  obtain ⟨U, hU, h0⟩ := h
  exact ⟨U, hU.below hb, h0⟩
theorem Dr.fr {w w' : World} {g : Nat} {s : DS} {V F : Nat → Prop} (h : Dr w g s V) (hb : Fr F w w') (hn : ∀ k, V k → ¬ F k) : Dr w' g s V := by
  obtain ⟨U, hU, h0⟩ := h
  exact ⟨U, hU.fr hb (fun k q => hn k (h0 k q)), h0⟩
theorem Dr.mono {w : World} {g : Nat} {s : DS} {V V' : Nat → Prop} (h : Dr w g s V) (hV : ∀ k, V k → k < w.heap.size → V' k) : Dr w g s V' := by
  obtain ⟨U, hU, h0⟩ := h
  exact ⟨U, hU, fun k q => hV k (h0 k q) (hU.lt k q)⟩
theorem Dr.ok {w : World} {g : Nat} {s : DS} {V : Nat → Prop} (h : Dr w g s V) : BlkOk s.B ∧ PenOk s.B.length s.P ∧ 0 < s.B.length := by
  obtain ⟨U, ⟨lt, ug, pen, pos, A, Ak, c, ck, vP, FB, FW, FK, h1, h2, _⟩, _⟩ := h
  exact ⟨h2.ok, pen, pos⟩
set_option maxRecDepth 100000 in
theorem rnew_bad (w : World) (n : Int) (h : n < 1 ∨ 2048 < n) : Calls Try.prog 36 #[.int .i64 n] w fun e w' => e = .returned (.tuple #[.pointer none, .int .i64 1]) ∧ Below w.heap.size w w' := by
  by_cases h1 : n < 1
  · have e1 : decide (n < 1) = true := decide_eq_true h1
    clear h
    go_enter Try.func36, Try.ntmps36
    go_wp2_with fail
    go_ret2
    exact ⟨rfl, Below.refl _ _⟩
  · have e1 : decide (n < 1) = false := decide_eq_false h1
    have e2 : decide (n > 2048) = true := decide_eq_true (by omega)
    have e3 : decide (2048 < n) = true := decide_eq_true (by omega)
    clear h h1
    go_enter Try.func36, Try.ntmps36
    go_wp2_with fail
    go_ret2
    exact ⟨rfl, Below.refl _ _⟩
/-- A row's elements while New makes it. -/
def rowsV (gs : Nat → Nat) (k : Nat) : List Value := (List.range k).map (fun i => .slice (some ⟨gs i, 0, none⟩) 256 256)
theorem rowsV_next (gs : Nat → Nat) (k : Nat) (x : Nat) : rowsV gs k ++ [.slice (some ⟨x, 0, none⟩) 256 256] = rowsV (fun i => if i < k then gs i else x) (k + 1) := by
  unfold rowsV
  rw [List.range_succ, List.map_append]
  congr 1
  · apply List.map_congr_left
    intro i hi
    show _ = Value.slice (some ⟨if i < k then gs i else x, 0, none⟩) 256 256
    rw [if_pos (List.mem_range.1 hi)]
  · simp
structure NewR (w0 w' : World) (gD k : Nat) : Prop where
  out : ∃ (v : Value) (gs : Nat → Nat), w'.heap[gD]? = some (.cells #[v, .slice none 0 0, .bool false, .int .i64 0, .int .i64 0, .slice none 0 0] 112 (0, 0)) ∧ w'.ownsRow w0.heap.size 26 1 v k (rowsV gs k) ∧
    (∀ i, i < k → w0.heap.size ≤ gs i ∧ w'.heap[gs i]? = some (.cells (rowOf (.int .u8 0) 256) 5 (0, 0))) ∧ (∀ i j, i < k → j < k → gs i = gs j → i = j)
  below : Below w0.heap.size w0 w'
theorem own_slice {w : World} {base e size : Nat} {v : Value} {n : Nat} {xs : List Value} (h : w.ownsRow base e size v n xs) : ∃ A c, v = .slice A n c ∧ n ≤ c := by
  rcases h.2 with ⟨rfl, rfl⟩ | ⟨g, cap, cur, rfl, _, _, hc, _⟩
  · exact ⟨none, 0, rfl, Nat.le_refl _⟩
  · exact ⟨_, _, rfl, hc⟩
theorem NewR.drew {w0 w' : World} {gD k : Nat} (h : NewR w0 w' gD k) : NewR w0 w'.drew gD k := by
  obtain ⟨⟨v, gs, h1, h2, h3, h4⟩, hb⟩ := h
  exact ⟨⟨v, gs, h1, pw_own_below h2 (below_drew (Below.refl _ _)), h3, h4⟩, hb.drew⟩
/-- What is known behind an append of New's. -/
theorem NewR.step {w0 W w1 : World} {gD k : Nat} {v v1 : Value} {gs : Nat → Nat} (hgD : w0.heap.size ≤ gD) (h1 : W.heap[gD]? = some (.cells #[v, .slice none 0 0, .bool false, .int .i64 0, .int .i64 0, .slice none 0 0] 112 (0, 0))) (h2 : W.ownsRow w0.heap.size 26 1 v k (rowsV gs k))
    (h3 : ∀ i, i < k → w0.heap.size ≤ gs i ∧ W.heap[gs i]? = some (.cells (rowOf (.int .u8 0) 256) 5 (0, 0))) (h4 : ∀ i j, i < k → j < k → gs i = gs j → i = j) (hb : Below w0.heap.size w0 W)
    (ho : w1.ownsRow w0.heap.size 26 1 v1 (k + 1) (rowsV gs k ++ [.slice (some ⟨W.heap.size, 0, none⟩) 256 256])) (hb1 : Below w0.heap.size w0 w1) (hg : (W.alloc (.cells (rowOf (.int .u8 0) 256) 5)).grownBy w1 v.ownBlock)
    (hat : v1.ownBlock = v.ownBlock ∨ ∃ b, v1.ownBlock = some b ∧ (W.alloc (.cells (rowOf (.int .u8 0) 256) 5)).heap.size ≤ b) :
    w1.cell? ⟨gD, 0, none⟩ = some v ∧ w1.frozen? ⟨gD, 0, none⟩ = false ∧ NewR w0 (w1.setCell ⟨gD, 0, none⟩ v1) gD (k + 1) := by
  have hrow : ∀ q, v.ownBlock = some q → ∃ cur : Array Value, W.heap[q]? = some (.cells cur 26 (0, 0)) := fun q hq => by
    rcases h2.2 with ⟨rfl, _⟩ | ⟨g, cap, cur, rfl, _, hh, _⟩
    · cases hq
    · cases hq; exact ⟨cur, hh⟩
  have keep : ∀ (q : Nat) (cs : Array Value) (t : Nat), t ≠ 26 → W.heap[q]? = some (.cells cs t (0, 0)) → w1.heap[q]? = some (.cells cs t (0, 0)) := fun q cs t ht hq => by
    have hlt := blk_lt hq
    refine (hg.block q (by simp; omega) (fun e => ?_)).trans ((Below.heap_alloc _ _ _ hlt).trans hq)
    obtain ⟨cur, hc⟩ := hrow q e.symm
    rw [hq] at hc
    injection hc with hc
    injection hc with _ hc
    exact ht hc
  have k1 := keep gD _ 112 (by decide) h1
  have hnew : w1.heap[W.heap.size]? = some (.cells (rowOf (.int .u8 0) 256) 5 (0, 0)) := by
    refine (hg.block W.heap.size (by simp) (fun e => ?_)).trans (heap_new W _)
    obtain ⟨cur, hc⟩ := hrow _ e.symm
    have := blk_lt hc
    omega
  have hne1 : ∀ q cs t, t ≠ 112 → w1.heap[q]? = some (.cells cs t (0, 0)) → q ≠ gD := fun q cs t ht hq e => by
    subst e
    rw [k1] at hq
    injection hq with hq
    injection hq with _ hq
    exact ht hq.symm
  have set : ∀ q, q ≠ gD → (w1.setCell ⟨gD, 0, none⟩ v1).heap[q]? = w1.heap[q]? := fun q hq => Below.heap_setCell w1 _ v1 q hq
  refine ⟨by rw [blk_cell k1]; rfl, blk_frozen k1 0, ⟨v1, fun i => if i < k then gs i else W.heap.size, ?_, ?_, fun i hi => ?_, fun i j hi hj hij => ?_⟩, hb1.setCell (p := ⟨gD, 0, none⟩) hgD v1⟩
  · have := blk_set k1 0 v1
    simpa using this
  · rw [← rowsV_next]
    refine ho.kept (row := some gD) (grownBy_setCell' _ _ _) (.inr fun e => ?_)
    rcases ho.2 with ⟨rfl, h0⟩ | ⟨g, cap, cur, rfl, _, hh, _⟩
    · omega
    · cases e
      exact hne1 _ _ _ (by decide) hh rfl
  · dsimp only
    split
    · next hik =>
      have q := keep _ _ 5 (by decide) (h3 i hik).2
      exact ⟨(h3 i hik).1, (set _ (hne1 _ _ _ (by decide) q)).trans q⟩
    · exact ⟨hb.size, (set _ (hne1 _ _ _ (by decide) hnew)).trans hnew⟩
  · dsimp only at hij
    have old : ∀ q, q < k → gs q < W.heap.size := fun q hq => blk_lt (h3 q hq).2
    split at hij
    · next hik =>
      split at hij
      · next hjk => exact h4 i j hik hjk hij
      · have := old i hik; omega
    · split at hij
      · next hjk => have := old j hjk; omega
      · omega
theorem NewR.dr {w0 w' : World} {gD n : Nat} (h : NewR w0 w' gD n) (hgD : w0.heap.size ≤ gD) (hn : 0 < n) : DR w' gD (fun k => w0.heap.size ≤ k ∧ k < w'.heap.size) (newS n) := by
  obtain ⟨⟨v, gs, h1, h2, h3, h4⟩, hb⟩ := h
  rcases h2.2 with ⟨rfl, h0⟩ | ⟨g, cap, cur, rfl, hgb, hh, hc, _, _, ht⟩
  · omega
  have hBl : (newS n).B.length = n := by simp [newS]
  have hgne : g ≠ gD := fun e => by subst e; rw [h1] at hh; injection hh with hh; injection hh with _ hh; exact absurd hh (by decide)
  have hsne : ∀ i, i < n → gs i ≠ g ∧ gs i ≠ gD := fun i hi => by
    have q := (h3 i hi).2
    refine ⟨fun e => ?_, fun e => ?_⟩
    · rw [e, hh] at q; injection q with q; injection q with _ q; exact absurd q (by decide)
    · rw [e, h1] at q; injection q with q; injection q with _ q; exact absurd q (by decide)
  have hz : ∀ i, i < n → (newS n).B.getD i [] = zer 256 := fun i hi => by
    show (List.replicate n (zer 256)).getD i [] = _
    rw [List.getD_eq_getElem?_getD, List.getElem?_replicate, if_pos hi]
    rfl
  refine ⟨fun k hk => hk.2, ⟨hgD, blk_lt h1⟩, fun x hx => (by cases hx), (by rw [hBl]; exact hn), some ⟨g, 0, none⟩, none, cap, 0, .slice none 0 0, fun k => (w0.heap.size ≤ k ∧ k < w'.heap.size) ∧ k ≠ gD, fun _ => False, fun _ => False, ?_, ⟨fun b hb' => ?_, g, gs, fun _ => 256, cur.toList, rfl, by rw [hBl]; exact hc, ⟨⟨hgb, blk_lt hh⟩, hgne⟩, hh, fun i hi => ?_, fun i j hi hj => ?_⟩, Kd.R_nil _ _ _ _ _, Kd.F_nil _ _ _, Nat.le_refl _, fun k hk => hk, fun k hk => hk.elim, fun k hk => hk.elim⟩
  · rw [hBl]; exact h1
  · have : b = zer 256 := List.eq_of_mem_replicate hb'
    rw [this]
    exact ⟨zer_len _, zer_bytes _⟩
  · rw [hBl] at hi
    refine ⟨?_, Nat.le_refl _, ⟨⟨(h3 i hi).1, blk_lt (h3 i hi).2⟩, (hsne i hi).2⟩, (hsne i hi).1, encs (Value.int .u8) (zer 256), by rw [← rowOf_enc]; exact (h3 i hi).2, by rw [hz i hi]; exact List.take_of_length_le (by rw [encs_length, zer_len]; exact Nat.le_refl _)⟩
    have := congrArg (fun l => l[i]?) ht
    simp only [Nat.mul_one] at this
    rw [List.getElem?_take, if_pos hi] at this
    rw [this]
    unfold rowsV
    rw [List.getElem?_map, List.getElem?_range hi]
    rfl
  · rw [hBl] at hi hj
    exact h4 i j hi hj
attribute [local go_sem high] mk26
set_option maxRecDepth 100000 in
set_option maxHeartbeats 16000000 in
theorem rnew_ok (w : World) (N : Nat) (h1 : 1 ≤ N) (h2 : N ≤ 2048) : Calls Try.prog 36 #[.int .i64 (N : Int)] w fun e w' => ∃ g, e = .returned (.tuple #[.pointer (some ⟨g, 0, none⟩), .int .i64 0]) ∧ w.heap.size ≤ g ∧ DR w' g (fun k => w.heap.size ≤ k ∧ k < w'.heap.size) (newS N) ∧ Below w.heap.size w w' := by
  have e1 : decide ((N : Int) < 1) = false := decide_eq_false (by omega)
  have e2 : decide ((N : Int) > 2048) = false := decide_eq_false (by omega)
  have e3 : decide ((2048 : Int) < (N : Int)) = false := decide_eq_false (by omega)
  have N1 := Aside0.mk h1
  have N2 := Aside0.mk h2
  have NB := Aside0.mk (show N ≤ 9223372036854775807 by omega)
  have B0 := Aside0.mk ((Below.refl w.heap.size w).alloc (Nat.le_refl _) (.cells #[.slice none 0 0, .slice none 0 0, .bool false, .int .i64 0, .int .i64 0, .slice none 0 0] 112))
  have R0 := Aside0.mk (show NewR w (w.alloc (.cells #[.slice none 0 0, .slice none 0 0, .bool false, .int .i64 0, .int .i64 0, .slice none 0 0] 112)) w.heap.size 0 from ⟨⟨.slice none 0 0, fun _ => 0, heap_new w _, World.ownsRow_nil _ _ _ _, fun i h => absurd h (Nat.not_lt_zero _), fun i j h => absurd h (Nat.not_lt_zero _)⟩, B0.out⟩)
  clear h1 h2
  go_enter Try.func36, Try.ntmps36
  go_wp2_with fail
  obtain ⟨w1, hw1⟩ : ∃ x, x = w.alloc (.cells #[.slice none 0 0, .slice none 0 0, .bool false, .int .i64 0, .int .i64 0, .slice none 0 0] 112) := ⟨_, rfl⟩
  obtain ⟨gD, hgD⟩ : ∃ x, x = w.heap.size := ⟨_, rfl⟩
  have GD := Aside0.mk (show w.heap.size ≤ gD from Nat.le_of_eq hgD.symm)
  have R1 := Aside0.mk (show NewR w w1 gD 0 from by rw [hw1, hgD]; exact R0.out)
  rw [← hw1, ← hgD]
  clear hw1 hgD R0 B0 e1 e2 e3
  go_loopg [5] N (fun q v w' => ∃ (k : Nat), v = .int .i64 (k : Int) ∧ Aside0 (k + q = N) ∧ Aside0 (NewR w w' gD k))
  case atStart => exact ⟨0, rfl, ⟨Nat.zero_add _⟩, R1⟩
  case round =>
    clear R1
    obtain ⟨k, rfl, HJ, RR⟩ := hrel
    by_cases hlt : k < N
    case pos =>
      have hgd : decide ((k : Int) < (N : Int)) = true := (di_t hlt).1
      have hgd2 : decide (k < N) = true := (di_t hlt).2
      have HN1 := Aside0.mk (st_n HJ.out hlt).1
      have HM := Aside0.mk (st_n HJ.out hlt).2
      have HV := Aside0.mk (stepv hlt NB.out)
      have HLT := Aside0.mk hlt
      obtain ⟨⟨v, gs, q1, q2, q3, q4⟩, qb⟩ := RR.out.drew
      obtain ⟨A, c, rfl, hc⟩ := own_slice q2
      have Q1 := Aside0.mk q1
      have Q2 := Aside0.mk q2
      have Q3 := Aside0.mk q3
      have Q4 := Aside0.mk q4
      have QB := Aside0.mk qb
      have z0 : wr.cell? ⟨gD, 0, none⟩ = some (.slice A k c) := by
        have : wr.drew.cell? ⟨gD, 0, none⟩ = some (.slice A k c) := by rw [blk_cell q1]; rfl
        exact this
      have z1 : (wr.alloc (.cells (rowOf (.int .u8 0) 256) 5)).cell? ⟨gD, 0, none⟩ = some (.slice A k c) := pw_cell_below ((Below.refl _ _).alloc (Nat.le_refl _) _) z0
      have z2 : ((wr.alloc (.cells (rowOf (.int .u8 0) 256) 5)).alloc (.cells #[.slice (some ⟨wr.heap.size, 0, none⟩) 256 256] 26)).cell? ⟨gD, 0, none⟩ = some (.slice A k c) := pw_cell_below ((Below.refl _ _).alloc (Nat.le_refl _) _) z1
      clear hlt q1 q2 q3 q4 qb hc
      go_wp2_with fail
      go_region_law (refine step_append_cells (W := wr.drew.alloc (.cells (rowOf (.int .u8 0) 256) 5)) (w0 := w) w.heap.size (by rfl) (.tmp 23) (.tmp 25) 52 26 (.slice none 0 0) 1 24 rfl Try.underlying52 info26 rfl (by decide) (by decide) (.slice A k c) k (rowsV gs k) [.slice (some ⟨wr.heap.size, 0, none⟩) 256 256] rfl (show Value.slice (some ⟨wr.heap.size + 1, 0, none⟩) 1 1 = _ from by simp) rfl (by intro u hu; rw [List.mem_singleton.1 hu]; rfl) (Q2.out.alloc _) (QB.out.alloc QB.out.size _) (by have := QB.out.size; simp at this ⊢; omega) (by have := HLT.out; have := N2.out; omega) ?_; intro v1 w2 ho hb hg hat; obtain ⟨A1, c1, rfl, _⟩ := own_slice ho; have ST := Aside0.mk (NewR.step GD.out Q1.out Q2.out Q3.out Q4.out QB.out ho hb hg hat); clear ho hb hg hat z0 z1 z2; have c0 := ST.out.1; have f0 := ST.out.2.1)
      all_goals
        go_wp2_with fail
        go_roundg (gk - 1)
        case measure => exact HM.out
        case rel => exact ⟨k + 1, by first | exact HV.out | rfl, HN1, ⟨ST.out.2.2⟩⟩
    have hke : k = N := en_k HJ.out hlt
    clear hlt
    subst hke
    obtain ⟨hgd, hgd2⟩ := di_f (rfl : k = k)
    go_wp2_with fail
    go_ret2
    exact ⟨gD, rfl, GD.out, RR.out.dr GD.out N1.out, RR.out.below⟩
end Go.Proofs.Ythnadkdfgckijaa.Pure
namespace Go.Proofs.Ythnadkdfgckijaa.Pure
open Go.RowKit Go.Proofs.Ythnadkdfgckijaa Go.Proofs.Ythnadkdfgckijaa.PAll Go.Proofs.Ythnadkdfgckijaa.Mem Go.Proofs.YthnadkdfgckijaaW.PrintWords Go.Proofs.YthnadkdfgckijaaW.PrintLast Go.Proofs.YthnadkdfgckijaaW.PrintMore
set_option linter.unusedVariables false
set_option linter.unusedSimpArgs false
set_option linter.unusedSectionVars false

/-- A block of a disk, as it is read. -/
theorem row_read {w : World} {A : Option Addr} {c : Nat} {F : Nat → Prop} {B : List (List Int)} (h : RowsAt w A c F B) {k : Nat} (hk : k < B.length) : ∃ gB x cx, A = some ⟨gB, 0, none⟩ ∧ F gB ∧ F x ∧ w.cell? ⟨gB, k, none⟩ = some (.slice (some ⟨x, 0, none⟩) 256 cx) ∧ 256 ≤ cx ∧ Kd.C (Kd.int .u8) w (some ⟨x, 0, none⟩) 256 (B.getD k []) ∧ (B.getD k []).length = 256 := by
  obtain ⟨ok, gB, gs, cs, cur, rfl, h2, h3, h4, h5, h6⟩ := h
  obtain ⟨q1, q2, q3, q4, bc, q5, q6⟩ := h5 k hk
  have hl := (getD_ok ok hk).1
  have hC := blk_C (enc := Value.int .u8) (h1 := fun _ => rfl) (xs := B.getD k []) q5 (by rw [List.drop_zero, hl]; exact q6) (by omega)
  rw [hl] at hC
  exact ⟨gB, gs k, cs k, rfl, h3, q3, by rw [blk_cell h4]; simpa using q1, q2, hC, hl⟩
theorem flat_next {B : List (List Int)} {k : Nat} (h : k < B.length) : (B.take k).flatten ++ B.getD k [] = (B.take (k + 1)).flatten := by
  rw [List.take_succ_eq_append_getElem h, List.flatten_append, List.getD_eq_getElem?_getD, List.getElem?_eq_getElem h]
  simp
theorem flat_tlen {B : List (List Int)} (h : BlkOk B) {k : Nat} (hk : k ≤ B.length) : (B.take k).flatten.length = 256 * k := by
  rw [flat_len (fun b hb => h b (List.mem_of_mem_take hb)), List.length_take, Nat.min_eq_left hk]
set_option maxRecDepth 100000 in
set_option maxHeartbeats 16000000 in
theorem r_image {w : World} {g : Nat} {s : DS} {V : Nat → Prop} (h : Dr w g s V) (hn : s.B.length ≤ 1000000) {m : Nat} (hm : 256 * s.B.length = m) : Calls Try.prog 63 #[.pointer (some ⟨g, 0, none⟩)] w fun e w' => ∃ Y d, e = .returned (.slice Y m d) ∧ Own w' w.heap.size Y d s.B.flatten ∧ Below w.heap.size w w' := by
  obtain ⟨U, hD, h0⟩ := h
  have D0 := Aside0.mk hD
  have NB := Aside0.mk hn
  have NM := Aside0.mk hm
  obtain ⟨N, hN⟩ : ∃ N, N = s.B.length := ⟨_, rfl⟩
  have HN := Aside0.mk hN
  have OKB := Aside0.mk (show BlkOk s.B from by obtain ⟨lt, ug, pen, pos, A, Ak, c, ck, vP, FB, FW, FK, h1, h2, h3, h4, h5, h6, h7, h8⟩ := hD; exact h2.ok)
  clear hD hn hm h0 hN
  go_enter Try.func63, Try.ntmps63
  go_wp2_with fail
  go_loopg [3, 4] N (fun q v3 v4 w' => ∃ (k : Nat), v4 = .int .i64 (k : Int) ∧ Aside0 (k + q = N) ∧ Aside0 (Kd.R (Kd.int .u8) 5 w' w.heap.size (fun _ => True) v3 (s.B.take k).flatten) ∧ Aside0 (Below w.heap.size w w'))
  case atStart => exact ⟨0, rfl, ⟨Nat.zero_add _⟩, ⟨Kd.R_nil _ _ _ _ _⟩, ⟨Below.refl _ _⟩⟩
  case round =>
    obtain ⟨k, rfl, HJ, RR, BB⟩ := hrel
    obtain ⟨U', hU'⟩ : ∃ q : Nat, q = 0 := ⟨_, rfl⟩
    obtain ⟨lt, ug, pen, pos, A, Ak, c, ck, vP, FB, FW, FK, h1, h2, h3, h4, h5, h6, h7, h8⟩ := D0.out.below BB.out
    have hl := HN.out
    obtain ⟨z0, z1, z2, z3, z4, z5⟩ := dk_cells h1
    rw [← hl] at z0
    clear z1 z2 z3 z4 z5 h1 h3 h4 h5 h6 h7 h8 lt ug pen pos hU' U'
    by_cases hlt : k < N
    case pos =>
      obtain ⟨gB, x, cx, rfl, _, _, y0, y1, hC, y3⟩ := row_read h2 (k := k) (hl ▸ hlt)
      have hgd : decide ((k : Int) < (N : Int)) = true := (di_t hlt).1
      have hgd2 : decide (k < N) = true := (di_t hlt).2
      have HN1 := Aside0.mk (st_n HJ.out hlt).1
      have HM := Aside0.mk (st_n HJ.out hlt).2
      have HV := Aside0.mk (stepv hlt (by rw [HN.out]; have := NB.out; omega))
      have HC := Aside0.mk hC
      have FN := Aside0.mk (flat_next (B := s.B) (k := k) (hl ▸ hlt))
      have FL := Aside0.mk (flat_tlen OKB.out (k := k) (hl ▸ Nat.le_of_lt hlt))
      have LT := Aside0.mk (show k ≤ 1000000 from by have := NB.out; omega)
      clear hC
      obtain ⟨bk, hbk⟩ : ∃ b, b = s.B.getD k [] := ⟨_, rfl⟩
      obtain ⟨fk, hfk⟩ : ∃ b, b = (s.B.take k).flatten := ⟨_, rfl⟩
      rw [← hbk] at HC FN
      rw [← hfk] at FN FL RR
      obtain ⟨A3, c3, rfl, _, _⟩ := R_own RR.out
      clear h2 y1 y3 hl hbk hfk
      go_wp2_with ((with_reducible refine gate_builtin (b := .append) (xs := #[.tmp 14, .tmp 21]) rfl ?_); at_builtin; refine Kd.R_append_rows (Kd.int .u8) (w0 := w) w.heap.size (by rfl) (.tmp 14) (.tmp 21) 26 5 (.int .u8 0) 1 rfl Try.underlying26 info5 rfl (by decide) (by decide) _ fk bk (some ⟨x, 0, none⟩) 256 cx (fun _ => True) (fun _ => False) rfl rfl ?aO ?aR (fun _ _ h => h) (fun _ h => h.elim) ?aF ?aB ?aS ?aL ?_)
      case aO => exact RR.out
      case aR => exact HC.out
      case aF => exact fun _ _ => trivial
      case aB => exact BB.out
      case aS => exact BB.out.size
      case aL => have := FL.out; have := LT.out; omega
      intro v1 w2 ho hb hg hat
      rw [FN.out] at ho
      have RN := Aside0.mk ho
      have BN := Aside0.mk hb
      clear ho hb hg hat y0 z0
      go_wp2_with fail
      go_roundg (gk - 1)
      case measure => exact HM.out
      case rel => exact ⟨k + 1, by first | exact HV.out | rfl, HN1, RN, BN⟩
    have hke : k = N := en_k HJ.out hlt
    clear hlt hl h2
    subst hke
    obtain ⟨hgd, hgd2⟩ := di_f (rfl : k = k)
    obtain ⟨Y, d, hv, hO⟩ := own_of RR.out
    have hfl := flat_tlen OKB.out (k := k) (Nat.le_of_eq HN.out)
    rw [HN.out, NM.out, ← HN.out] at hfl
    rw [hfl] at hv
    subst hv
    have OO := Aside0.mk hO
    clear hO hfl RR
    go_wp2_with fail
    go_ret
    exact ⟨Y, d, rfl, by have := OO.out; rwa [HN.out, List.take_length] at this, BB.out⟩
theorem lastW_next (P : List (Int × List Int)) (i : Int) (d : List Int) {k : Nat} (h : k < P.length) : lastW (P.take (k + 1)) i d = if pI P k = i then pB P k else lastW (P.take k) i d := by
  rw [take_snoc h]
  unfold lastW
  rw [List.foldl_append]
  rfl
/-- The block that is at hand while the pending writes are gone through. -/
structure HaveB (w : World) (A : Option Addr) (c : Nat) (b : List Int) : Prop where
  cap : 256 ≤ c
  C : Kd.C (Kd.int .u8) w A 256 b
  len : b.length = 256
theorem HaveB.below {w w' : World} {A : Option Addr} {c : Nat} {b : List Int} (h : HaveB w A c b) (hb : Below w.heap.size w w') : HaveB w' A c b := ⟨h.cap, Kd.C_below h.C hb, h.len⟩
theorem pen_read' {w : World} {U : Nat → Prop} {A : Option Addr} {P : List (Int × List Int)} (h : Kd.F kW w U A P.length P) (hl : ∀ x ∈ P, x.2.length = 256) {i : Nat} (hi : i < P.length) :
    ∃ ad Ab cb, A = some ad ∧ w.cell? (ad.add (i * 2)) = some (.int .i64 (pI P i)) ∧ w.cell? ⟨(ad.add (i * 2)).block, (ad.add (i * 2)).off + 1, none⟩ = some (.slice Ab 256 cb) ∧ 256 ≤ cb ∧ Kd.F (Kd.int .u8) w U Ab 256 (pB P i) ∧ (pB P i).length = 256 := by
  obtain ⟨ad, Ab, cb, a1, a2, a3, a4, a5⟩ := pen_at h hi
  have hll := hl _ (List.getElem_mem hi)
  have e : P.getD i (0, []) = P[i] := by rw [List.getD_eq_getElem?_getD, List.getElem?_eq_getElem hi]; rfl
  unfold pI pB
  rw [e]
  rw [hll] at a3 a4 a5
  exact ⟨ad, Ab, cb, a1, a2, a3, a4, a5, hll⟩
theorem readS_off {s : DS} (h : s.off = true) (i : Int) : readS s i = (5, []) := by
  have e : placeS s i = 5 := by unfold placeS; rw [if_pos h]
  unfold readS
  rw [e]
  rfl
theorem readS_out {s : DS} (h : s.off = false) {i : Int} (hi : i < 0 ∨ i ≥ (s.B.length : Int)) : readS s i = (30, []) := by
  have e : placeS s i = 30 := by unfold placeS; rw [if_neg (by rw [h]; decide), if_pos hi]
  unfold readS
  rw [e]
  rfl
theorem readS_in {s : DS} (h : s.off = false) {I : Nat} (hi : I < s.B.length) : readS s (I : Int) = (0, lastW s.P (I : Int) (s.B.getD I [])) := by
  have e : placeS s (I : Int) = 0 := by unfold placeS; rw [if_neg (by rw [h]; decide), if_neg (by omega)]
  unfold readS
  rw [e, if_neg (by decide), Int.toNat_natCast]
set_option maxRecDepth 100000 in
set_option maxHeartbeats 16000000 in
theorem r_read {w : World} {g : Nat} {s : DS} {V : Nat → Prop} (h : Dr w g s V) (i : Int) (hn : s.B.length ≤ 1000000) (hPl : s.P.length ≤ 1000000) {r : Int} {b : List Int} (hr : readS s i = (r, b)) : Calls Try.prog 27 #[.pointer (some ⟨g, 0, none⟩), .int .i64 i] w fun e w' => ∃ Y yd, e = .returned (.tuple #[.slice Y b.length yd, .int .i64 r]) ∧ Own w' w.heap.size Y yd b ∧ Below w.heap.size w w' := by
  obtain ⟨U, ⟨lt, ug, pen, pos, A, Ak, c, ck, vP, FB, FW, FK, h1, h2, h3, h4, h5, h6, h7, h8⟩, h0⟩ := h
  obtain ⟨z0, z1, z2, z3, z4, z5⟩ := dk_cells h1
  obtain ⟨NB, hNB⟩ : ∃ N, N = s.B.length := ⟨_, rfl⟩
  rw [← hNB] at z0
  cases ho : s.off with
  | true =>
    rw [readS_off ho] at hr
    injection hr with hr1 hr2
    subst hr1 hr2
    rw [ho] at z2
    clear h1 h2 h3 h4 h5 h6 h7 h8 h0 lt ug pen pos hn hPl ho
    go_enter Try.func27, Try.ntmps27
    go_wp2_with fail
    go_ret2
    exact ⟨none, 0, rfl, own_nil _ _, Below.refl _ _⟩
  | false =>
    rw [ho] at z2
    by_cases hi0 : i < 0
    · rw [readS_out ho (.inl hi0)] at hr
      injection hr with hr1 hr2
      subst hr1 hr2
      have e1 : decide (i < 0) = true := decide_eq_true hi0
      clear h1 h2 h3 h4 h5 h6 h7 h8 h0 lt ug pen pos hn hPl ho
      go_enter Try.func27, Try.ntmps27
      go_wp2_with fail
      go_ret2
      exact ⟨none, 0, rfl, own_nil _ _, Below.refl _ _⟩
    · have e1 : decide (i < 0) = false := decide_eq_false hi0
      by_cases hi1 : i ≥ (NB : Int)
      · rw [readS_out ho (.inr (hNB ▸ hi1))] at hr
        injection hr with hr1 hr2
        subst hr1 hr2
        have e2 : decide (i ≥ (NB : Int)) = true := decide_eq_true hi1
        have e3 : decide ((NB : Int) ≤ i) = true := decide_eq_true hi1
        clear h1 h2 h3 h4 h5 h6 h7 h8 h0 lt ug pen pos hn hPl ho
        go_enter Try.func27, Try.ntmps27
        go_wp2_with fail
        go_ret2
        exact ⟨none, 0, rfl, own_nil _ _, Below.refl _ _⟩
      · obtain ⟨I, rfl⟩ : ∃ I : Nat, i = (I : Int) := ⟨i.toNat, by omega⟩
        have hI : I < NB := by omega
        rw [readS_in ho (hNB ▸ hI)] at hr
        injection hr with hr1 hr2
        subst hr1
        have e2 : decide ((I : Int) ≥ (NB : Int)) = false := decide_eq_false hi1
        have e3 : decide ((NB : Int) ≤ (I : Int)) = false := decide_eq_false hi1
        obtain ⟨gB, x, cx, rfl, _, _, y0, y1, hC, y3⟩ := row_read h2 (k := I) (hNB ▸ hI)
        obtain ⟨dB, hdB⟩ : ∃ d, d = s.B.getD I [] := ⟨_, rfl⟩
        rw [← hdB] at hC y3 hr2
        have HB0 := Aside0.mk (show HaveB w (some ⟨x, 0, none⟩) cx (lastW (s.P.take 0) (I : Int) dB) from ⟨y1, hC, y3⟩)
        obtain ⟨AP, cP, rfl, hcP, hPF⟩ := R_own h3
        have PF := Aside0.mk hPF
        have LEN := Aside0.mk (show ∀ x ∈ s.P, x.2.length = 256 from fun x hx => (pen x hx).2.2.1)
        obtain ⟨P, hP⟩ : ∃ P, P = s.P := ⟨_, rfl⟩
        obtain ⟨N, hN⟩ : ∃ N, N = s.P.length := ⟨_, rfl⟩
        have HN := Aside0.mk hN
        have NL := Aside0.mk (show N ≤ 1000000 from hN ▸ hPl)
        have HR2 := Aside0.mk hr2
        rw [← hN] at z1
        have Z1 := Aside0.mk z1
        clear h1 h2 h3 h4 h5 h6 h7 h8 h0 lt ug pen pos hn hPl ho hcP hPF hi0 hi1 hNB hC y1 y3 hdB hr2 hN hP P z1 z3 z4 z5
        go_enter Try.func27, Try.ntmps27
        go_wp2_with fail
        clear z0 z2 e1 e2 e3 y0
        go_loopg [6, 7] N (fun q v6 v7 w' => ∃ (k : Nat) (Ab : Option Addr) (cb : Nat), v6 = .slice Ab 256 cb ∧ v7 = .int .i64 (k : Int) ∧ Aside0 (k + q = N) ∧ Aside0 (HaveB w' Ab cb (lastW (s.P.take k) (I : Int) dB)) ∧ Aside0 (Below w.heap.size w w'))
        case atStart => exact ⟨0, _, _, rfl, rfl, ⟨Nat.zero_add _⟩, HB0, ⟨Below.refl _ _⟩⟩
        case round =>
          clear HB0
          obtain ⟨k, Ab, cb, rfl, rfl, HJ, HB, BB⟩ := hrel
          have z1 := pw_cell_below BB.out Z1.out
          by_cases hlt : k < N
          case pos =>
            have hgd : decide ((k : Int) < (N : Int)) = true := (di_t hlt).1
            have hgd2 : decide (k < N) = true := (di_t hlt).2
            have HN1 := Aside0.mk (st_n HJ.out hlt).1
            have HM := Aside0.mk (st_n HJ.out hlt).2
            have HV := Aside0.mk (stepv hlt (big_n NL.out))
            obtain ⟨ad, Ax, cx2, rfl, q0, q1, q2, q3, q4⟩ := pen_read' (Kd.F_below PF.out BB.out) LEN.out (HN.out ▸ hlt)
            have HX := Aside0.mk (show HaveB wr Ax cx2 (pB s.P k) from ⟨q2, Kd.F_now q3, q4⟩)
            have NX := Aside0.mk (lastW_next s.P (I : Int) dB (HN.out ▸ hlt))
            clear q2 q3 q4
            by_cases hx : pI s.P k = (I : Int)
            · have e1 : (pI s.P k == (I : Int)) = true := by simpa using hx
              have XN := Aside0.mk (show HaveB wr Ax cx2 (lastW (s.P.take (k + 1)) (I : Int) dB) from by rw [NX.out, if_pos hx]; exact HX.out)
              clear hx
              go_wp2_with fail
              go_roundg (gk - 1)
              case measure => exact HM.out
              case rel => exact ⟨k + 1, _, _, rfl, by first | exact HV.out | rfl, HN1, XN, BB⟩
            · have e1 : (pI s.P k == (I : Int)) = false := by simpa using hx
              have XN := Aside0.mk (show HaveB wr Ab cb (lastW (s.P.take (k + 1)) (I : Int) dB) from by rw [NX.out, if_neg hx]; exact HB.out)
              clear hx
              go_wp2_with fail
              go_roundg (gk - 1)
              case measure => exact HM.out
              case rel => exact ⟨k + 1, _, _, rfl, by first | exact HV.out | rfl, HN1, XN, BB⟩
          have hke : k = N := en_k HJ.out hlt
          clear hlt
          subst hke
          obtain ⟨hgd, hgd2⟩ := di_f (rfl : k = k)
          obtain ⟨bl, hbl⟩ : ∃ x, x = lastW (s.P.take k) (I : Int) dB := ⟨_, rfl⟩
          have HH := Aside0.mk (show HaveB wr Ab cb bl ∧ bl = b from ⟨by rw [hbl]; exact HB.out, by rw [hbl, ← HR2.out, HN.out, List.take_length]⟩)
          have HCC := Aside0.mk HH.out.1.C
          clear HB hbl
          go_wp2_with ((with_reducible refine gate_builtin (b := .append) (xs := #[.const (.slice none 0 0), .tmp 57]) rfl ?_); at_builtin; refine Kd.R_append_rows (Kd.int .u8) (w0 := wr) wr.heap.size (by rfl) (.const (.slice none 0 0)) (.tmp 57) 26 5 (.int .u8 0) 1 rfl Try.underlying26 info5 rfl (by decide) (by decide) (.slice none 0 0) [] bl Ab 256 cb (fun _ => True) (fun _ => False) rfl rfl ?aO ?aR (fun _ _ h => h) (fun _ h => h.elim) ?aF ?aB ?aS ?aL ?_)
          case aO => exact Kd.R_nil _ _ _ _ _
          case aR => exact HCC.out
          case aF => exact fun _ _ => trivial
          case aB => exact Below.refl _ _
          case aS => exact Nat.le_refl _
          case aL => simp
          intro v1 w2 ho hb hg hat
          try rw [List.nil_append] at ho
          obtain ⟨Y, d, hv, hO⟩ := own_of ho
          rw [HH.out.1.len] at hv
          subst hv
          have OO := Aside0.mk (own_lower hO BB.out.size)
          have KK := Aside0.mk (BB.out.trans (hb.mono BB.out.size))
          clear ho hb hg hat hO z1
          go_wp2_with fail
          go_ret2
          exact ⟨Y, d, by rw [← HH.out.2, HH.out.1.len]; rfl, by rw [← HH.out.2]; exact OO.out, KK.out⟩
end Go.Proofs.Ythnadkdfgckijaa.Pure
namespace Go.Proofs.Ythnadkdfgckijaa.Pure
open Go.RowKit Go.Proofs.Ythnadkdfgckijaa Go.Proofs.Ythnadkdfgckijaa.PAll Go.Proofs.Ythnadkdfgckijaa.Mem Go.Proofs.YthnadkdfgckijaaW.PrintWords Go.Proofs.YthnadkdfgckijaaW.PrintLast Go.Proofs.YthnadkdfgckijaaW.PrintMore
set_option linter.unusedVariables false
set_option linter.unusedSimpArgs false
set_option linter.unusedSectionVars false

set_option maxRecDepth 100000 in
theorem n_ops {w : World} {g : Nat} {s : DS} {V : Nat → Prop} (h : Dk w g s V) : Calls Try.prog 33 #[.pointer (some ⟨g, 0, none⟩)] w fun e w' => e = .returned (.int .i64 s.ops) ∧ Below w.heap.size w w' := by
  obtain ⟨U, ⟨lt, ug, pen, pos, A, Ak, c, ck, vP, FB, FW, FK, h1, h2, h3, h4, h5, h6, h7, h8⟩, h0⟩ := h
  obtain ⟨z0, z1, z2, z3, z4, z5⟩ := dk_cells h1
  clear h1 h2 h3 h4 h5 h6 h7 h8 h0 lt ug pen pos z0 z1 z2 z4 z5
  go_enter Try.func33, Try.ntmps33
  go_wp2_with fail
  go_ret
  exact ⟨rfl, Below.refl _ _⟩
/-- The document's disk, as it is read. -/
theorem dr_cells {w : World} {g : Nat} {s : DS} {V : Nat → Prop} (h : Dr w g s V) : ∃ (A AP Ak : Option Addr) (c cP ck : Nat) (UP : Nat → Prop), w.heap[g]? = some (.cells (dkCs A s.B.length c (.slice AP s.P.length cP) (.bool s.off) (.int .i64 s.ops) (.int .i64 s.armed) (.slice Ak s.picks.length ck)) 112 (0, 0)) ∧ Kd.F kW w UP AP s.P.length s.P := by
  obtain ⟨U, ⟨lt, ug, pen, pos, A, Ak, c, ck, vP, FB, FW, FK, h1, h2, h3, h4, h5, h6, h7, h8⟩, h0⟩ := h
  obtain ⟨AP, cP, rfl, hcP, hPF⟩ := R_own h3
  exact ⟨A, AP, Ak, c, cP, ck, FW, h1, hPF⟩
theorem min_1 (N m : Nat) (h : m = min 1 N) : ∀ ats ty, Builtin.min_ ats ty #[.int .i64 1, .int .i64 (N : Int)] = pure (.int .i64 (m : Int)) := by
  intro ats ty
  rw [min_two, min2_int]
  have : (if (N : Int) < 1 then (N : Int) else 1) = (m : Int) := by split <;> omega
  rw [this]
  rfl
set_option maxRecDepth 100000 in
set_option maxHeartbeats 16000000 in
theorem same_b {w : World} {g gr : Nat} {s : DS} {V V' : Nat → Prop} (hD : Dk w g s V) (hE : Dr w gr s V') (hB : s.B.length ≤ 1000000) (hP : s.P.length ≤ 120) (o : Bool) (ho : s.off = o) (no : Bool) (hno : (!o) = no) (hne : (no == o) = false) : Calls Try.prog 28 #[.pointer (some ⟨g, 0, none⟩), .pointer (some ⟨gr, 0, none⟩)] w fun e w' => e = .returned (.bool true) ∧ Below w.heap.size w w' := by
  have D := Aside0.mk hD
  have E := Aside0.mk hE
  have NB := Aside0.mk hB
  have PL := Aside0.mk (show s.P.length ≤ 1000000 from Nat.le_trans hP (by decide))
  have P120 := Aside0.mk hP
  have OO := Aside0.mk ho
  have NO := Aside0.mk (show (!s.off) = no from by rw [ho]; exact hno)
  have K := Aside0.mk (Below.refl w.heap.size w)
  have PEN := Aside0.mk hD.ok.2
  have BOK := Aside0.mk hD.ok.1
  have LEN := Aside0.mk (show ∀ x ∈ s.P, x.2.length = 256 from fun x hx => (hD.ok.2.1 x hx).2.2.1)
  obtain ⟨N, hN⟩ : ∃ N, N = s.P.length := ⟨_, rfl⟩
  have HN := Aside0.mk hN
  clear hD hE hB hP ho hno hN
  go_enter Try.func28, Try.ntmps28
  go_wp2_with fail
  refine (pending_c (dk_pends D.out PL.out) PL.out LEN.out 1048576).mono ?_
  rintro e w1 ⟨A1, c1, rfl, hc1, hR, hb⟩
  rw [pend_big P120.out] at hR hc1
  rw [pend_big P120.out]
  replace D := Aside0.mk (D.out.below hb)
  replace E := Aside0.mk (E.out.below hb)
  replace K := Aside0.mk (K.out.trans (hb.mono K.out.size))
  have R1 := Aside0.mk (Kd.R_F hR)
  rw [← HN.out] at R1 ⊢
  clear hR hb hc1
  obtain ⟨m1, hm1⟩ : ∃ m, m = min 1 N := ⟨_, rfl⟩
  have M1 := Aside0.mk hm1
  have hmin := min_1 N m1 hm1
  clear hm1
  obtain ⟨nb, hnb⟩ : ∃ n, n = s.B.length := ⟨_, rfl⟩
  have HNB := Aside0.mk hnb
  obtain ⟨op, hop⟩ : ∃ n, n = s.ops := ⟨_, rfl⟩
  have HOP := Aside0.mk hop
  obtain ⟨mb, hmb⟩ : ∃ m, 256 * s.B.length = m := ⟨_, rfl⟩
  have HMB := Aside0.mk hmb
  have FLN := Aside0.mk (show s.B.flatten.length = mb from by rw [flat_len BOK.out, hmb])
  obtain ⟨A, AP, Ak, c, cP, ck, UP, h1, hPF⟩ := dr_cells E.out
  have PF := Aside0.mk hPF
  obtain ⟨z0, z1, z2, z3, _, _⟩ := dk_cells h1
  have GR := Aside0.mk (show (World.drew w1).heap[gr]? = _ from h1)
  rw [← HN.out] at z1
  rw [← hnb] at z0
  rw [← hop] at z3
  rw [OO.out] at z2
  clear h1 hPF hnb hop hmb
  go_wp2_with fail
  replace D := Aside0.mk (D.out.below (below_drew (Below.refl _ _)))
  replace E := Aside0.mk (E.out.below (below_drew (Below.refl _ _)))
  replace K := Aside0.mk (K.out.drew)
  replace R1 := Aside0.mk (Kd.F_drew R1.out)
  replace PF := Aside0.mk (Kd.F_drew PF.out)
  go_region_held3 (fun w' => w'.cell? ⟨gr, 0, none⟩ = some (.slice A nb c) ∧ w'.cell? ⟨gr, 1, none⟩ = some (.slice AP N cP) ∧ w'.cell? ⟨gr, 2, none⟩ = some (.bool o) ∧ w'.cell? ⟨gr, 3, none⟩ = some (.int .i64 op)) (go_keep)
    (first
      | (go_at_call 32; refine (n_len D.out).mono ?_; rintro e wa ⟨rfl, hb⟩; rw [← HNB.out]; replace D := Aside0.mk (D.out.below hb); replace E := Aside0.mk (E.out.below hb); replace K := Aside0.mk (K.out.trans (hb.mono K.out.size)); replace R1 := Aside0.mk (Kd.F_below R1.out hb); replace PF := Aside0.mk (Kd.F_below PF.out hb); replace GR := Aside0.mk ((hb.block _ (blk_lt GR.out)).trans GR.out); clear z0 z1 z2 z3; obtain ⟨z0, z1, z2, z3, _, _⟩ := dk_cells GR.out; rw [← HN.out] at z1; rw [← HNB.out] at z0; rw [← HOP.out] at z3; rw [OO.out] at z2; clear hb)
      | (go_at_call 31; refine (n_on D.out NO.out).mono ?_; rintro e wa ⟨rfl, hb⟩; replace D := Aside0.mk (D.out.below hb); replace E := Aside0.mk (E.out.below hb); replace K := Aside0.mk (K.out.trans (hb.mono K.out.size)); replace R1 := Aside0.mk (Kd.F_below R1.out hb); replace PF := Aside0.mk (Kd.F_below PF.out hb); replace GR := Aside0.mk ((hb.block _ (blk_lt GR.out)).trans GR.out); clear z0 z1 z2 z3; obtain ⟨z0, z1, z2, z3, _, _⟩ := dk_cells GR.out; rw [← HN.out] at z1; rw [← HNB.out] at z0; rw [← HOP.out] at z3; rw [OO.out] at z2; clear hb)
      | (go_at_call 33; refine (n_ops D.out).mono ?_; rintro e wa ⟨rfl, hb⟩; rw [← HOP.out]; replace D := Aside0.mk (D.out.below hb); replace E := Aside0.mk (E.out.below hb); replace K := Aside0.mk (K.out.trans (hb.mono K.out.size)); replace R1 := Aside0.mk (Kd.F_below R1.out hb); replace PF := Aside0.mk (Kd.F_below PF.out hb); replace GR := Aside0.mk ((hb.block _ (blk_lt GR.out)).trans GR.out); clear z0 z1 z2 z3; obtain ⟨z0, z1, z2, z3, _, _⟩ := dk_cells GR.out; rw [← HN.out] at z1; rw [← HNB.out] at z0; rw [← HOP.out] at z3; rw [OO.out] at z2; clear hb)
      | (go_at_call 21; refine (n_image D.out NB.out HMB.out).mono ?_; rintro e wa ⟨Y1, d1, rfl, hO, hb⟩; have OA := Aside0.mk hO; replace D := Aside0.mk (D.out.below hb); replace E := Aside0.mk (E.out.below hb); replace K := Aside0.mk (K.out.trans (hb.mono K.out.size)); replace R1 := Aside0.mk (Kd.F_below R1.out hb); replace PF := Aside0.mk (Kd.F_below PF.out hb); replace GR := Aside0.mk ((hb.block _ (blk_lt GR.out)).trans GR.out); clear z0 z1 z2 z3; obtain ⟨z0, z1, z2, z3, _, _⟩ := dk_cells GR.out; rw [← HN.out] at z1; rw [← HNB.out] at z0; rw [← HOP.out] at z3; rw [OO.out] at z2; clear hb hO)
      | (go_at_call 63; refine (r_image E.out NB.out HMB.out).mono ?_; rintro e wa ⟨Y2, d2, rfl, hO, hb⟩; replace OA := Aside0.mk (own_below OA.out hb); have OB := Aside0.mk hO; replace D := Aside0.mk (D.out.below hb); replace E := Aside0.mk (E.out.below hb); replace K := Aside0.mk (K.out.trans (hb.mono K.out.size)); replace R1 := Aside0.mk (Kd.F_below R1.out hb); replace PF := Aside0.mk (Kd.F_below PF.out hb); replace GR := Aside0.mk ((hb.block _ (blk_lt GR.out)).trans GR.out); clear z0 z1 z2 z3; obtain ⟨z0, z1, z2, z3, _, _⟩ := dk_cells GR.out; rw [← HN.out] at z1; rw [← HNB.out] at z0; rw [← HOP.out] at z3; rw [OO.out] at z2; clear hb hO)
      | (go_at_call 20; refine (eq_own OA.out OB.out rfl FLN.out (flat_bytes BOK.out)).mono ?_; rintro e wa ⟨rfl, hb⟩; replace D := Aside0.mk (D.out.below hb); replace E := Aside0.mk (E.out.below hb); replace K := Aside0.mk (K.out.trans (hb.mono K.out.size)); replace R1 := Aside0.mk (Kd.F_below R1.out hb); replace PF := Aside0.mk (Kd.F_below PF.out hb); replace GR := Aside0.mk ((hb.block _ (blk_lt GR.out)).trans GR.out); clear z0 z1 z2 z3; obtain ⟨z0, z1, z2, z3, _, _⟩ := dk_cells GR.out; rw [← HN.out] at z1; rw [← HNB.out] at z0; rw [← HOP.out] at z3; rw [OO.out] at z2; clear hb)
      | (go_at_call 22; refine (pending_c (dk_pends D.out PL.out) PL.out LEN.out 1).mono ?_; rintro e wa ⟨A2, c2, rfl, _, _, hb⟩; rw [show (s.P.take (1 : Int).toNat).length = m1 from by rw [List.length_take, M1.out, HN.out]; rfl]; replace D := Aside0.mk (D.out.below hb); replace E := Aside0.mk (E.out.below hb); replace K := Aside0.mk (K.out.trans (hb.mono K.out.size)); replace R1 := Aside0.mk (Kd.F_below R1.out hb); replace PF := Aside0.mk (Kd.F_below PF.out hb); replace GR := Aside0.mk ((hb.block _ (blk_lt GR.out)).trans GR.out); clear z0 z1 z2 z3; obtain ⟨z0, z1, z2, z3, _, _⟩ := dk_cells GR.out; rw [← HN.out] at z1; rw [← HNB.out] at z0; rw [← HOP.out] at z3; rw [OO.out] at z2; clear hb))
  all_goals
    go_wp2_with fail
    clear z0 z1 z2 z3
    have B0 := Aside0.mk (Below.refl wa.heap.size wa)
    go_loopg [71] N (fun q v w' => ∃ (k : Nat), v = .int .i64 (k : Int) ∧ Aside0 (k + q = N) ∧ Aside0 (Below wa.heap.size wa w'))
    case atStart => exact ⟨0, rfl, ⟨Nat.zero_add _⟩, B0⟩
    case round =>
      clear B0
      obtain ⟨k, rfl, HJ, BB⟩ := hrel
      by_cases hlt : k < N
      case pos =>
        have hgd : decide ((k : Int) < (N : Int)) = true := (di_t hlt).1
        have hgd2 : decide (k < N) = true := (di_t hlt).2
        have HN1 := Aside0.mk (st_n HJ.out hlt).1
        have HM := Aside0.mk (st_n HJ.out hlt).2
        have HV := Aside0.mk (stepv hlt (by have := P120.out; have := HN.out; omega))
        have HLT := Aside0.mk (show k < s.P.length from HN.out ▸ hlt)
        obtain ⟨ad, Ab, cb, hAP, q0, q1, q2, q3, q4⟩ := pen_read' (Kd.F_below PF.out BB.out) LEN.out HLT.out
        obtain ⟨ad1, Ax, cx, hA1, p0, p1, p2, p3, p4⟩ := pen_read' (Kd.F_below (show Kd.F kW wa _ A1 s.P.length s.P from HN.out ▸ R1.out) BB.out) LEN.out HLT.out
        have BA := Aside0.mk ((Below.refl wr.heap.size wr).alloc (Nat.le_refl _) (.cells #[.int .i64 (pI s.P k), .slice Ab 256 cb] 43))
        have BN := Aside0.mk (BB.out.trans (BA.out.mono BB.out.size))
        obtain ⟨x0, x1⟩ := box43 wr (.int .i64 (pI s.P k)) (.slice Ab 256 cb)
        have p0' := pw_cell_below BA.out p0
        have p1' := pw_cell_below BA.out p1
        have EQ := Aside0.mk (show ∀ m, Calls Try.prog 20 #[.slice Ax 256 cx, .slice Ab 256 cb] ((wr.alloc (.cells #[.int .i64 (pI s.P k), .slice Ab 256 cb] 43)).drewN m) fun e w' => e = .returned (.bool true) ∧ ∃ q, w' = ((wr.alloc (.cells #[.int .i64 (pI s.P k), .slice Ab 256 cb] 43)).drewN m).drewN q from fun m => by
          have XB := pB_bytes PEN.out.1 HLT.out
          have := equal_q (Kd.C_drewN (show Kd.C (Kd.int .u8) _ Ax (pB s.P k).length (pB s.P k) from by rw [p4]; exact Kd.F_now (Kd.F_below p3 BA.out)) m) (Kd.C_drewN (show Kd.C (Kd.int .u8) _ Ab (pB s.P k).length (pB s.P k) from by rw [q4]; exact Kd.F_now (Kd.F_below q3 BA.out)) m) p4 q4 p2 q2 XB XB
          rw [decide_eq_true rfl] at this
          exact this)
        clear p0 p1 p2 p3 p4 q2 q3 q4
        subst hAP hA1
        go_wp2_with fail
        go_quiet (first | (go_at_call 20; exact Calls.quiet_of (EQ.out _)))
        go_wp2_with fail
        go_roundg (gk - 1)
        case measure => exact HM.out
        case rel => exact ⟨k + 1, by first | exact HV.out | rfl, HN1, ⟨BN.out.trans ((pw_below_drewN (Below.refl _ _) nq).mono BN.out.size)⟩⟩
      have hke : k = N := en_k HJ.out hlt
      clear hlt
      subst hke
      obtain ⟨hgd, hgd2⟩ := di_f (rfl : k = k)
      go_wp2_with fail
      go_ret
      exact ⟨rfl, K.out.trans (BB.out.mono K.out.size)⟩
theorem same_c {w : World} {g gr : Nat} {s : DS} {V V' : Nat → Prop} (hD : Dk w g s V) (hE : Dr w gr s V') (hB : s.B.length ≤ 1000000) (hP : s.P.length ≤ 120) : Calls Try.prog 28 #[.pointer (some ⟨g, 0, none⟩), .pointer (some ⟨gr, 0, none⟩)] w fun e w' => e = .returned (.bool true) ∧ Below w.heap.size w w' := by
  cases ho : s.off
  · exact same_b hD hE hB hP false ho true rfl rfl
  · exact same_b hD hE hB hP true ho false rfl rfl
end Go.Proofs.Ythnadkdfgckijaa.Pure
namespace Go.Proofs.Ythnadkdfgckijaa.Pure
open Go.RowKit Go.Proofs.Ythnadkdfgckijaa Go.Proofs.Ythnadkdfgckijaa.PAll Go.Proofs.Ythnadkdfgckijaa.Mem Go.Proofs.YthnadkdfgckijaaW.PrintWords Go.Proofs.YthnadkdfgckijaaW.PrintLast Go.Proofs.YthnadkdfgckijaaW.PrintMore
set_option linter.unusedVariables false
set_option linter.unusedSimpArgs false
set_option linter.unusedSectionVars false

def chunk (l : List Int) (i : Nat) : List Int := (l.drop (256 * i)).take 256
theorem chunk_len {l : List Int} {n i : Nat} (hn : l.length = n) (h : 256 * i + 256 ≤ n) : (chunk l i).length = 256 := by
  unfold chunk
  rw [List.length_take, List.length_drop]
  omega
theorem chunk_bytes {l : List Int} (h : Bytes l) (i : Nat) : Bytes (chunk l i) := fun x hx => h x (List.mem_of_mem_drop (List.mem_of_mem_take hx))
/-- The blocks while a medium is laid. -/
def ofB (l : List Int) (N k : Nat) : List (List Int) := (List.range N).map (fun i => if i < k then chunk l i else zer 256)
theorem ofB_len (l : List Int) (N k : Nat) : (ofB l N k).length = N := by simp [ofB]
theorem ofB_zero (l : List Int) (N : Nat) : ofB l N 0 = List.replicate N (zer 256) := by
  apply List.ext_getElem?
  intro j
  unfold ofB
  rw [List.getElem?_map, List.getElem?_replicate]
  by_cases h : j < N
  · rw [List.getElem?_range h, if_pos h]; simp
  · rw [List.getElem?_eq_none (by simp; omega), if_neg h]; rfl
theorem ofB_set (l : List Int) (N k : Nat) (h : k < N) : (ofB l N k).set k (chunk l k) = ofB l N (k + 1) := by
  apply List.ext_getElem?
  intro j
  unfold ofB
  rw [List.getElem?_set, List.getElem?_map, List.getElem?_map]
  by_cases e : k = j
  · subst e
    rw [if_pos rfl, if_pos (by simp; exact h), List.getElem?_range h, Option.map_some, if_pos (Nat.lt_succ_self _)]
  · rw [if_neg e]
    by_cases hj : j < N
    · rw [List.getElem?_range hj, Option.map_some, Option.map_some]
      congr 1
      by_cases h1 : j < k
      · rw [if_pos h1, if_pos (by omega)]
      · rw [if_neg h1, if_neg (by omega)]
    · rw [List.getElem?_eq_none (by simp; omega)]; rfl
def ofS (l : List Int) (N k : Nat) : DS := { B := ofB l N k, P := [], off := false, ops := 0, armed := 0, picks := [] }
theorem ofS_zero (l : List Int) (N : Nat) : ofS l N 0 = newS N := by unfold ofS newS; rw [ofB_zero]
/-- A row of a disk, and what is behind a copy into it. -/
theorem rows_row {w : World} {A : Option Addr} {c : Nat} {F : Nat → Prop} {B : List (List Int)} (h : RowsAt w A c F B) {k : Nat} (hk : k < B.length) : ∃ gB gI cI bc, A = some ⟨gB, 0, none⟩ ∧ F gI ∧ w.cell? ⟨gB, k, none⟩ = some (.slice (some ⟨gI, 0, none⟩) 256 cI) ∧ w.heap[gI]? = some (.cells (List.toArray bc) 5 (0, 0)) ∧ 256 ≤ bc.length ∧
    ∀ (w' : World) (bc' : List Value) (r : List Int), Only gI w w' → w'.heap[gI]? = some (.cells bc'.toArray 5 (0, 0)) → bc'.take 256 = encs (Value.int .u8) r → r.length = 256 ∧ Bytes r → RowsAt w' A c F (B.set k r) := by
  have h0 := h
  obtain ⟨ok, gB, gs, cs, cur, rfl, h2, h3, h4, h5, h6⟩ := h
  obtain ⟨q1, q2, q3, q4, bc, q5, q6⟩ := h5 k hk
  refine ⟨gB, gs k, cs k, bc, rfl, q3, by rw [blk_cell h4]; simpa using q1, q5, ?_, fun w' bc' r ho hg ht hr => h0.set rfl h2 h3 h4 h5 h6 hk ho hg ht hr⟩
  have := congrArg List.length q6
  rw [List.length_take, encs_length, (getD_ok ok hk).1] at this
  omega
theorem DK.row {w : World} {g : Nat} {U : Nat → Prop} {s : DS} (h : DK w g U s) {k : Nat} (hk : k < s.B.length) : ∃ gB gI cI bc c v1 v2 v3 v4 v5, w.heap[g]? = some (.cells (dkCs (some ⟨gB, 0, none⟩) s.B.length c v1 v2 v3 v4 v5) 55 (0, 0)) ∧ U gI ∧ w.cell? ⟨gB, k, none⟩ = some (.slice (some ⟨gI, 0, none⟩) 256 cI) ∧ w.heap[gI]? = some (.cells (List.toArray bc) 5 (0, 0)) ∧ 256 ≤ bc.length ∧
    ∀ (w' : World) (bc' : List Value) (r : List Int), Only gI w w' → w'.heap[gI]? = some (.cells bc'.toArray 5 (0, 0)) → bc'.take 256 = encs (Value.int .u8) r → r.length = 256 ∧ Bytes r → DK w' g U { s with B := s.B.set k r } := by
  obtain ⟨lt, ug, pen, pos, A, Ak, c, ck, vP, FB, FW, FK, h1, h2, h3, h4, h5, h6, h7, h8⟩ := h
  obtain ⟨gB, gI, cI, bc, rfl, q3, q4, q5, q6, q7⟩ := rows_row h2 hk
  refine ⟨gB, gI, cI, bc, c, vP, _, _, _, _, h1, (h6 _ q3).1, q4, q5, q6, fun w' bc' r ho hg ht hr => ?_⟩
  have hf : Fr FB w w' := Fr.only ho q3
  exact ⟨fun k hk => Nat.lt_of_lt_of_le (lt k hk) hf.size, ug, by rw [show (_ : DS).B.length = s.B.length from List.length_set ..]; exact pen, by rw [show (_ : DS).B.length = s.B.length from List.length_set ..]; exact pos, some ⟨gB, 0, none⟩, Ak, c, ck, vP, FB, FW, FK, by rw [show (_ : DS).B.length = s.B.length from List.length_set ..]; exact fr_blk hf h1 (fun q => (h6 g q).2 rfl), q7 w' bc' r ho hg ht hr, Kd.R_step h3 (fun k hk hlt => hf.block k hlt (h7 k hk).2.2), F_fr h4 hf (fun k hk => (h8 k hk).2.2.1), h5, h6, h7, h8⟩
theorem DR.row {w : World} {g : Nat} {U : Nat → Prop} {s : DS} (h : DR w g U s) {k : Nat} (hk : k < s.B.length) : ∃ gB gI cI bc c v1 v2 v3 v4 v5, w.heap[g]? = some (.cells (dkCs (some ⟨gB, 0, none⟩) s.B.length c v1 v2 v3 v4 v5) 112 (0, 0)) ∧ U gI ∧ w.cell? ⟨gB, k, none⟩ = some (.slice (some ⟨gI, 0, none⟩) 256 cI) ∧ w.heap[gI]? = some (.cells (List.toArray bc) 5 (0, 0)) ∧ 256 ≤ bc.length ∧
    ∀ (w' : World) (bc' : List Value) (r : List Int), Only gI w w' → w'.heap[gI]? = some (.cells bc'.toArray 5 (0, 0)) → bc'.take 256 = encs (Value.int .u8) r → r.length = 256 ∧ Bytes r → DR w' g U { s with B := s.B.set k r } := by
  obtain ⟨lt, ug, pen, pos, A, Ak, c, ck, vP, FB, FW, FK, h1, h2, h3, h4, h5, h6, h7, h8⟩ := h
  obtain ⟨gB, gI, cI, bc, rfl, q3, q4, q5, q6, q7⟩ := rows_row h2 hk
  refine ⟨gB, gI, cI, bc, c, vP, _, _, _, _, h1, (h6 _ q3).1, q4, q5, q6, fun w' bc' r ho hg ht hr => ?_⟩
  have hf : Fr FB w w' := Fr.only ho q3
  exact ⟨fun k hk => Nat.lt_of_lt_of_le (lt k hk) hf.size, ug, by rw [show (_ : DS).B.length = s.B.length from List.length_set ..]; exact pen, by rw [show (_ : DS).B.length = s.B.length from List.length_set ..]; exact pos, some ⟨gB, 0, none⟩, Ak, c, ck, vP, FB, FW, FK, by rw [show (_ : DS).B.length = s.B.length from List.length_set ..]; exact fr_blk hf h1 (fun q => (h6 g q).2 rfl), q7 w' bc' r ho hg ht hr, Kd.R_step h3 (fun k hk hlt => hf.block k hlt (h7 k hk).2.2), F_fr h4 hf (fun k hk => (h8 k hk).2.2.1), h5, h6, h7, h8⟩
/-- What the copy of a block needs and leaves. -/
theorem of_copy {w : World} {gI n c i : Nat} {bc : List Value} {l : List Int} {A : Option Addr} (hC : Kd.C (Kd.int .u8) w A n l) (hc : n ≤ c) (hi : 256 * i + 256 ≤ n) (hbc : 256 ≤ bc.length) {f : Nat} (hf : f = 256 * i) :
    ∃ es : List Value, es.length = Nat.min (n - f) 256 ∧ (0 < es.length → (some (⟨gI, 0, none⟩ : Addr) = some ⟨gI, 0, none⟩) ∧ ∃ ad, cutP A c f = some ad ∧ ∀ j v, es[j]? = some v → w.cell? (ad.add j) = some v) ∧ 0 + es.length ≤ bc.length ∧ (∀ v ∈ es, v.oneCell' = true) ∧ (splice bc 0 es).take 256 = encs (Value.int .u8) (chunk l i) := by
  subst hf
  have hn : l.length = n := hC.1
  have hl := chunk_len hn hi
  refine ⟨encs (Value.int .u8) (chunk l i), by rw [encs_length, hl]; exact (Nat.min_eq_right (by omega)).symm, fun _ => ⟨rfl, ?_⟩, by rw [encs_length, hl]; omega, encs_one _ (fun _ => rfl), ?_⟩
  · obtain ⟨ad, hA, hcell⟩ := hC.2.2 (by omega)
    subst hA
    refine ⟨ad.add (256 * i * 1), by unfold cutP; rw [if_neg (by omega)]; rfl, fun j v hv => ?_⟩
    unfold encs chunk at hv
    rw [List.getElem?_map, List.getElem?_take] at hv
    by_cases hj : j < 256
    · rw [if_pos hj, List.getElem?_drop] at hv
      obtain ⟨x, hx, rfl⟩ := Option.map_eq_some_iff.1 hv
      obtain ⟨cs, c1, c2, c3⟩ := hcell (256 * i + j) x hx
      have hcs : cs = [.int .u8 x] := c2
      subst hcs
      have := c3 0 _ rfl
      rw [show (256 * i + j) * (Kd.int .u8).sz + 0 = 256 * i + j from by show (256 * i + j) * 1 + 0 = _; omega] at this
      rw [add_add, Nat.mul_one]
      exact this
    · rw [if_neg hj] at hv
      cases hv
  · have hsl : (splice bc 0 (encs (Value.int .u8) (chunk l i))).take 256 = (encs (Value.int .u8) (chunk l i)).take 256 := by
      unfold splice
      rw [List.take_zero, List.nil_append, List.take_append_of_le_length (by rw [encs_length, hl]; exact Nat.le_refl _)]
    rw [hsl]
    exact List.take_of_length_le (by rw [encs_length, hl]; exact Nat.le_refl _)
theorem of_bounds {n N i : Nat} (hN : n = 256 * N) (hi : i < N) : 256 * i + 256 ≤ n ∧ 256 * i ≤ n := by omega
theorem of_mul {i f N : Nat} (hf : f = 256 * i) (hi : i < N) (hN : N ≤ 2048) : IntKind.i64.wrap ((i : Int) * 256) = (f : Int) ∧ wrap64 ((i : Int) * 256) = (f : Int) := by
  have : wrap64 ((i : Int) * 256) = (f : Int) := by rw [w64id (by omega) (by omega)]; omega
  exact ⟨(i64_w _).trans this, this⟩
theorem of_div {n : Nat} (h : n ≤ 140737488351232) : IntKind.i64.wrap ((n : Int) / 256) = ((n / 256 : Nat) : Int) ∧ Int.tmod (n : Int) 256 = ((n % 256 : Nat) : Int) := by
  refine ⟨?_, ?_⟩
  · rw [i64_w, w64id (by omega) (by omega)]; omega
  · rw [Int.tmod_eq_emod_of_nonneg (by omega)]; omega
attribute [local go_sem high] cutL
theorem of_next {w7 : World} {g : Nat} {U : Nat → Prop} {l : List Int} {N k : Nat} (hk : k < N) (h : DK w7 g U { ofS l N k with B := (ofS l N k).B.set k (chunk l k) }) : DK w7 g U (ofS l N (k + 1)) := by
  have e : ({ ofS l N k with B := (ofS l N k).B.set k (chunk l k) } : DS) = ofS l N (k + 1) := by
    show DS.mk ((ofB l N k).set k (chunk l k)) _ _ _ _ _ = _
    rw [ofB_set _ _ _ hk]
    rfl
  rwa [e] at h
set_option maxRecDepth 100000 in
set_option maxHeartbeats 16000000 in
theorem of_ok {w : World} {A : Option Addr} {n c : Nat} {l : List Int} (hC : Kd.C (Kd.int .u8) w A n l) (hc : n ≤ c) (hby : Bytes l) {N : Nat} (hN : n = 256 * N) (h1 : 1 ≤ N) (h2 : N ≤ 2048) : Calls Try.prog 25 #[.slice A n c] w fun e w' => ∃ g, e = .returned (.tuple #[.pointer (some ⟨g, 0, none⟩), .int .i64 0]) ∧ w.heap.size ≤ g ∧ DK w' g (fun k => w.heap.size ≤ k ∧ k < w'.heap.size) (ofS l N N) ∧ Below w.heap.size w w' := by
  obtain ⟨Q, hQ⟩ : ∃ Q : Int, Q = ((n / 256 : Nat) : Int) := ⟨_, rfl⟩
  have hq : IntKind.i64.wrap ((n : Int) / 256) = Q := (of_div (by omega)).1.trans hQ.symm
  have hr : Int.tmod (n : Int) 256 = 0 := (of_div (by omega)).2.trans (by omega)
  have QN := Aside0.mk (show Q = (N : Int) from by omega)
  have CC := Aside0.mk hC
  have HC := Aside0.mk hc
  have BY := Aside0.mk hby
  have NN := Aside0.mk hN
  have N1 := Aside0.mk h1
  have N2 := Aside0.mk h2
  have NB := Aside0.mk (show N ≤ 9223372036854775807 by omega)
  clear hC hc hby hN h1 h2 hQ
  go_enter Try.func25, Try.ntmps25
  go_wp2_with fail
  rw [QN.out]
  refine (new_ok w N N1.out N2.out).mono ?_
  rintro e w1 ⟨g, rfl, hg, hD, hb⟩
  rw [← ofS_zero l N] at hD
  have GG := Aside0.mk hg
  have D1 := Aside0.mk hD
  have B1 := Aside0.mk hb
  obtain ⟨gB0, gI0, cI0, bc0, c0, v1, v2, v3, v4, v5, p1, p2, p3, p4, p5, p6⟩ := hD.row (k := 0) (by rw [show (ofS l N 0).B.length = N from ofB_len ..]; exact N1.out)
  rw [show (ofS l N 0).B.length = N from ofB_len ..] at p1
  obtain ⟨z0, _, _, _, _, _⟩ := dk_cells p1
  clear p1 p2 p3 p4 p5 p6 hg hD hb
  go_wp2_with fail
  clear z0 hq hr
  go_loopg [27] N (fun q v w' => ∃ (k : Nat), v = .int .i64 (k : Int) ∧ Aside0 (k + q = N) ∧ Aside0 (DK w' g (fun k => w.heap.size ≤ k ∧ k < w1.heap.size) (ofS l N k)) ∧ Aside0 (Below w.heap.size w w') ∧ Aside0 (w1.heap.size = w'.heap.size))
  case atStart => exact ⟨0, rfl, ⟨Nat.zero_add _⟩, D1, B1, ⟨rfl⟩⟩
  case round =>
    clear D1 B1
    obtain ⟨k, rfl, HJ, DD, BB, SZ⟩ := hrel
    by_cases hlt : k < N
    case pos =>
      have hgd : decide ((k : Int) < (N : Int)) = true := (di_t hlt).1
      have hgd2 : decide (k < N) = true := (di_t hlt).2
      have HN1 := Aside0.mk (st_n HJ.out hlt).1
      have HM := Aside0.mk (st_n HJ.out hlt).2
      have HV := Aside0.mk (stepv hlt NB.out)
      have HLT := Aside0.mk hlt
      obtain ⟨gB, gI, cI, bc, cB, u1, u2, u3, u4, u5, p1, p2, p3, p4, p5, p6⟩ := (DD.out.below (below_drew (Below.refl _ _))).row (k := k) (by rw [show (ofS l N k).B.length = N from ofB_len ..]; exact hlt)
      rw [show (ofS l N k).B.length = N from ofB_len ..] at p1
      obtain ⟨y0, _, _, _, _, _⟩ := dk_cells p1
      have z0 : wr.cell? ⟨g, 0, none⟩ = some (.slice (some ⟨gB, 0, none⟩) N cB) := y0
      have x0 : wr.cell? ⟨gB, k, none⟩ = some (.slice (some ⟨gI, 0, none⟩) 256 cI) := p3
      obtain ⟨f, hf⟩ : ∃ f, f = 256 * k := ⟨_, rfl⟩
      obtain ⟨m1, m2⟩ := of_mul hf hlt N2.out
      have hfn : f ≤ n := by rw [hf]; exact (of_bounds NN.out hlt).2
      obtain ⟨es, a1, a2, a3, a4, a5⟩ := of_copy (gI := gI) (Kd.C_drew (Kd.C_below CC.out BB.out)) HC.out (of_bounds NN.out hlt).1 p5 hf
      have T1 := Aside0.mk p4
      have A1 := Aside0.mk a1
      have A2 := Aside0.mk a2
      have A3 := Aside0.mk a3
      have A4 := Aside0.mk a4
      have GI := Aside0.mk p2.1
      have RN := Aside0.mk (fun (w7 : World) (ho : Only gI wr.drew w7) (hg7 : w7.heap[gI]? = some (.cells (splice bc 0 es).toArray 5 (0, 0))) => of_next HLT.out (p6 w7 _ _ ho hg7 a5 ⟨chunk_len CC.out.1 (of_bounds NN.out HLT.out).1, chunk_bytes BY.out k⟩))
      clear p1 p2 p3 p4 p5 p6 y0 a1 a2 a3 a4 a5 hf DD
      go_wp2_with fail
      go_region_law (refine step_copy_only (by rfl) (.tmp 36) (.tmp 40) 26 26 (by rfl) 5 Try.underlying26 info5s (some ⟨gI, 0, none⟩) (cutP A c f) 256 cI (n - f) (c - f) rfl rfl gI 0 bc 5 T1.out es A1.out (fun h => ⟨rfl, (A2.out h).2⟩) A3.out A4.out ?_; intro w7 hg7 hb7)
      all_goals
        have DN := Aside0.mk (RN.out w7 hb7.out hg7.out)
        have BN := Aside0.mk ((Fr.only (F := (· = gI)) hb7.out rfl).below BB.out.drew (fun i e => e ▸ GI.out) BB.out.drew.size)
        have SN := Aside0.mk (show w1.heap.size = w7.heap.size from SZ.out.trans hb7.out.size.symm)
        clear hg7 hb7
        go_wp2_with fail
        go_roundg (gk - 1)
        case measure => exact HM.out
        case rel => exact ⟨k + 1, by first | exact HV.out | rfl, HN1, DN, BN, SN⟩
    have hke : k = N := en_k HJ.out hlt
    clear hlt
    subst hke
    obtain ⟨hgd, hgd2⟩ := di_f (rfl : k = k)
    go_wp2_with fail
    go_ret2
    exact ⟨g, rfl, GG.out, by rw [← SZ.out]; exact DD.out, BB.out⟩
theorem rof_next {w7 : World} {g : Nat} {U : Nat → Prop} {l : List Int} {N k : Nat} (hk : k < N) (h : DR w7 g U { ofS l N k with B := (ofS l N k).B.set k (chunk l k) }) : DR w7 g U (ofS l N (k + 1)) := by
  have e : ({ ofS l N k with B := (ofS l N k).B.set k (chunk l k) } : DS) = ofS l N (k + 1) := by
    show DS.mk ((ofB l N k).set k (chunk l k)) _ _ _ _ _ = _
    rw [ofB_set _ _ _ hk]
    rfl
  rwa [e] at h
set_option maxRecDepth 100000 in
set_option maxHeartbeats 16000000 in
theorem rof_ok {w : World} {A : Option Addr} {n c : Nat} {l : List Int} (hC : Kd.C (Kd.int .u8) w A n l) (hc : n ≤ c) (hby : Bytes l) {N : Nat} (hN : n = 256 * N) (h1 : 1 ≤ N) (h2 : N ≤ 2048) : Calls Try.prog 26 #[.slice A n c] w fun e w' => ∃ g, e = .returned (.tuple #[.pointer (some ⟨g, 0, none⟩), .int .i64 0]) ∧ w.heap.size ≤ g ∧ DR w' g (fun k => w.heap.size ≤ k ∧ k < w'.heap.size) (ofS l N N) ∧ Below w.heap.size w w' := by
  obtain ⟨Q, hQ⟩ : ∃ Q : Int, Q = ((n / 256 : Nat) : Int) := ⟨_, rfl⟩
  have hq : IntKind.i64.wrap ((n : Int) / 256) = Q := (of_div (by omega)).1.trans hQ.symm
  have hr : Int.tmod (n : Int) 256 = 0 := (of_div (by omega)).2.trans (by omega)
  have QN := Aside0.mk (show Q = (N : Int) from by omega)
  have CC := Aside0.mk hC
  have HC := Aside0.mk hc
  have BY := Aside0.mk hby
  have NN := Aside0.mk hN
  have N1 := Aside0.mk h1
  have N2 := Aside0.mk h2
  have NB := Aside0.mk (show N ≤ 9223372036854775807 by omega)
  clear hC hc hby hN h1 h2 hQ
  go_enter Try.func26, Try.ntmps26
  go_wp2_with fail
  rw [QN.out]
  refine (rnew_ok w N N1.out N2.out).mono ?_
  rintro e w1 ⟨g, rfl, hg, hD, hb⟩
  rw [← ofS_zero l N] at hD
  have GG := Aside0.mk hg
  have D1 := Aside0.mk hD
  have B1 := Aside0.mk hb
  obtain ⟨gB0, gI0, cI0, bc0, c0, v1, v2, v3, v4, v5, p1, p2, p3, p4, p5, p6⟩ := hD.row (k := 0) (by rw [show (ofS l N 0).B.length = N from ofB_len ..]; exact N1.out)
  rw [show (ofS l N 0).B.length = N from ofB_len ..] at p1
  obtain ⟨z0, _, _, _, _, _⟩ := dk_cells p1
  clear p1 p2 p3 p4 p5 p6 hg hD hb
  go_wp2_with fail
  clear z0 hq hr
  go_loopg [6] N (fun q v w' => ∃ (k : Nat), v = .int .i64 (k : Int) ∧ Aside0 (k + q = N) ∧ Aside0 (DR w' g (fun k => w.heap.size ≤ k ∧ k < w1.heap.size) (ofS l N k)) ∧ Aside0 (Below w.heap.size w w') ∧ Aside0 (w1.heap.size = w'.heap.size))
  case atStart => exact ⟨0, rfl, ⟨Nat.zero_add _⟩, D1, B1, ⟨rfl⟩⟩
  case round =>
    clear D1 B1
    obtain ⟨k, rfl, HJ, DD, BB, SZ⟩ := hrel
    by_cases hlt : k < N
    case pos =>
      have hgd : decide ((k : Int) < (N : Int)) = true := (di_t hlt).1
      have hgd2 : decide (k < N) = true := (di_t hlt).2
      have HN1 := Aside0.mk (st_n HJ.out hlt).1
      have HM := Aside0.mk (st_n HJ.out hlt).2
      have HV := Aside0.mk (stepv hlt NB.out)
      have HLT := Aside0.mk hlt
      obtain ⟨gB, gI, cI, bc, cB, u1, u2, u3, u4, u5, p1, p2, p3, p4, p5, p6⟩ := (DD.out.below (below_drew (Below.refl _ _))).row (k := k) (by rw [show (ofS l N k).B.length = N from ofB_len ..]; exact hlt)
      rw [show (ofS l N k).B.length = N from ofB_len ..] at p1
      obtain ⟨y0, _, _, _, _, _⟩ := dk_cells p1
      have z0 : wr.cell? ⟨g, 0, none⟩ = some (.slice (some ⟨gB, 0, none⟩) N cB) := y0
      have x0 : wr.cell? ⟨gB, k, none⟩ = some (.slice (some ⟨gI, 0, none⟩) 256 cI) := p3
      obtain ⟨f, hf⟩ : ∃ f, f = 256 * k := ⟨_, rfl⟩
      obtain ⟨m1, m2⟩ := of_mul hf hlt N2.out
      have hfn : f ≤ n := by rw [hf]; exact (of_bounds NN.out hlt).2
      obtain ⟨es, a1, a2, a3, a4, a5⟩ := of_copy (gI := gI) (Kd.C_drew (Kd.C_below CC.out BB.out)) HC.out (of_bounds NN.out hlt).1 p5 hf
      have T1 := Aside0.mk p4
      have A1 := Aside0.mk a1
      have A2 := Aside0.mk a2
      have A3 := Aside0.mk a3
      have A4 := Aside0.mk a4
      have GI := Aside0.mk p2.1
      have RN := Aside0.mk (fun (w7 : World) (ho : Only gI wr.drew w7) (hg7 : w7.heap[gI]? = some (.cells (splice bc 0 es).toArray 5 (0, 0))) => rof_next HLT.out (p6 w7 _ _ ho hg7 a5 ⟨chunk_len CC.out.1 (of_bounds NN.out HLT.out).1, chunk_bytes BY.out k⟩))
      clear p1 p2 p3 p4 p5 p6 y0 a1 a2 a3 a4 a5 hf DD
      go_wp2_with fail
      go_region_law (refine step_copy_only (by rfl) (.tmp 36) (.tmp 40) 26 26 (by rfl) 5 Try.underlying26 info5s (some ⟨gI, 0, none⟩) (cutP A c f) 256 cI (n - f) (c - f) rfl rfl gI 0 bc 5 T1.out es A1.out (fun h => ⟨rfl, (A2.out h).2⟩) A3.out A4.out ?_; intro w7 hg7 hb7)
      all_goals
        have DN := Aside0.mk (RN.out w7 hb7.out hg7.out)
        have BN := Aside0.mk ((Fr.only (F := (· = gI)) hb7.out rfl).below BB.out.drew (fun i e => e ▸ GI.out) BB.out.drew.size)
        have SN := Aside0.mk (show w1.heap.size = w7.heap.size from SZ.out.trans hb7.out.size.symm)
        clear hg7 hb7
        go_wp2_with fail
        go_roundg (gk - 1)
        case measure => exact HM.out
        case rel => exact ⟨k + 1, by first | exact HV.out | rfl, HN1, DN, BN, SN⟩
    have hke : k = N := en_k HJ.out hlt
    clear hlt
    subst hke
    obtain ⟨hgd, hgd2⟩ := di_f (rfl : k = k)
    obtain ⟨gBe, gIe, cIe, bce, ce, ue1, ue2, ue3, ue4, ue5, pe1, _⟩ := DD.out.row (k := 0) (by rw [show (ofS l k k).B.length = k from ofB_len ..]; exact N1.out)
    rw [show (ofS l k k).B.length = k from ofB_len ..] at pe1
    obtain ⟨ze0, _, _, _, _, _⟩ := dk_cells pe1
    clear pe1
    go_wp2_with fail
    go_ret2
    exact ⟨g, rfl, GG.out, by rw [← SZ.out]; exact DD.out, BB.out⟩
set_option maxRecDepth 100000 in
theorem of_bad {w : World} {A : Option Addr} {n c : Nat} (hn : n ≤ 140737488351232) (hb : n % 256 ≠ 0 ∨ n / 256 < 1 ∨ 2048 < n / 256) : Calls Try.prog 25 #[.slice A n c] w fun e w' => e = .returned (.tuple #[.pointer none, .int .i64 1]) ∧ Below w.heap.size w w' := by
  obtain ⟨Q, hQ⟩ : ∃ Q : Int, Q = ((n / 256 : Nat) : Int) := ⟨_, rfl⟩
  have hq : IntKind.i64.wrap ((n : Int) / 256) = Q := (of_div hn).1.trans hQ.symm
  obtain ⟨R, hR⟩ : ∃ R : Int, R = ((n % 256 : Nat) : Int) := ⟨_, rfl⟩
  have hr : Int.tmod (n : Int) 256 = R := (of_div hn).2.trans hR.symm
  by_cases hN : 1 ≤ n / 256 ∧ n / 256 ≤ 2048
  · have e1 : (R != 0) = true := by
      have : R ≠ 0 := by omega
      simpa using this
    have QN := Aside0.mk hQ
    have HN := Aside0.mk hN
    clear hQ hR hN hb hn
    go_enter Try.func25, Try.ntmps25
    go_wp2_with fail
    rw [QN.out]
    refine (new_ok w (n / 256) HN.out.1 HN.out.2).mono ?_
    rintro e w1 ⟨g, rfl, hg, hD, hb⟩
    have B1 := Aside0.mk hb
    clear hg hD hb
    go_wp2_with fail
    go_ret2
    exact ⟨rfl, B1.out⟩
  · have QN := Aside0.mk (show Q < 1 ∨ 2048 < Q from by omega)
    clear hQ hR hN hb hn hr
    go_enter Try.func25, Try.ntmps25
    go_wp2_with fail
    refine (new_bad w Q QN.out).mono ?_
    rintro e w1 ⟨rfl, hb⟩
    have B1 := Aside0.mk hb
    clear hb
    go_wp2_with fail
    go_ret2
    exact ⟨rfl, B1.out⟩
set_option maxRecDepth 100000 in
theorem rof_bad {w : World} {A : Option Addr} {n c : Nat} (hn : n ≤ 140737488351232) (hb : n % 256 ≠ 0 ∨ n / 256 < 1 ∨ 2048 < n / 256) : Calls Try.prog 26 #[.slice A n c] w fun e w' => e = .returned (.tuple #[.pointer none, .int .i64 1]) ∧ Below w.heap.size w w' := by
  obtain ⟨Q, hQ⟩ : ∃ Q : Int, Q = ((n / 256 : Nat) : Int) := ⟨_, rfl⟩
  have hq : IntKind.i64.wrap ((n : Int) / 256) = Q := (of_div hn).1.trans hQ.symm
  obtain ⟨R, hR⟩ : ∃ R : Int, R = ((n % 256 : Nat) : Int) := ⟨_, rfl⟩
  have hr : Int.tmod (n : Int) 256 = R := (of_div hn).2.trans hR.symm
  by_cases hm : n % 256 = 0
  · have e1 : (R != 0) = false := by
      have : R = 0 := by omega
      simpa using this
    have QN := Aside0.mk (show Q < 1 ∨ 2048 < Q from by omega)
    clear hQ hR hm hb hn
    go_enter Try.func26, Try.ntmps26
    go_wp2_with fail
    refine (rnew_bad w Q QN.out).mono ?_
    rintro e w1 ⟨rfl, hb⟩
    have B1 := Aside0.mk hb
    clear hb
    go_wp2_with fail
    go_ret2
    exact ⟨rfl, B1.out⟩
  · have e1 : (R != 0) = true := by
      have : R ≠ 0 := by omega
      simpa using this
    clear hQ hR hm hb hn hq
    go_enter Try.func26, Try.ntmps26
    go_wp2_with fail
    go_ret2
    exact ⟨rfl, Below.refl _ _⟩
end Go.Proofs.Ythnadkdfgckijaa.Pure
namespace Go.Proofs.Ythnadkdfgckijaa.Pure
open Go.RowKit Go.Proofs.Ythnadkdfgckijaa Go.Proofs.Ythnadkdfgckijaa.PAll Go.Proofs.Ythnadkdfgckijaa.Mem Go.Proofs.YthnadkdfgckijaaW.PrintWords Go.Proofs.YthnadkdfgckijaaW.PrintLast Go.Proofs.YthnadkdfgckijaaW.PrintMore
set_option linter.unusedVariables false
set_option linter.unusedSimpArgs false
set_option linter.unusedSectionVars false

theorem lastW_by (i : Int) : ∀ (P : List (Int × List Int)) (d : List Int), (∀ x ∈ P, Bytes x.2) → Bytes d → Bytes (lastW P i d)
  | [], d, _, hd => hd
  | x :: P, d, hP, hd => by
    unfold lastW
    rw [List.foldl_cons]
    have := lastW_by i P (if x.1 = i then x.2 else d) (fun y hy => hP y (List.mem_cons_of_mem _ hy)) (by split; exact hP x (List.mem_cons_self ..); exact hd)
    unfold lastW at this
    exact this
theorem readS_by {s : DS} (hB : BlkOk s.B) (hP : PenOk s.B.length s.P) {i : Int} {r : Int} {b : List Int} (h : readS s i = (r, b)) : Bytes b := by
  have nil : Bytes [] := fun x hx => by cases hx
  unfold readS at h
  split at h
  · injection h with _ h
    rw [← h]; exact nil
  · injection h with _ h
    rw [← h]
    refine lastW_by i s.P _ (fun x hx => (hP x hx).2.2.2) ?_
    by_cases hl : i.toNat < s.B.length
    · exact (getD_ok hB hl).2
    · rw [List.getD_eq_getElem?_getD, List.getElem?_eq_none (by omega)]
      exact nil
set_option maxRecDepth 100000 in
set_option maxHeartbeats 16000000 in
theorem images_c {w : World} {A : Option Addr} {n c : Nat} {l : List Int} (hC : Kd.C (Kd.int .u8) w A n l) (hc : n ≤ c) (hby : Bytes l) (hn : n ≤ 140737488351232) (i : Int) : Calls Try.prog 6 #[.slice A n c, .int .i64 i] w fun e w' => e = .returned (.bool true) ∧ Below w.heap.size w w' := by
  have K := Aside0.mk (Below.refl w.heap.size w)
  by_cases hok : n % 256 = 0 ∧ 1 ≤ n / 256 ∧ n / 256 ≤ 2048
  case neg =>
    have BAD := Aside0.mk (show n % 256 ≠ 0 ∨ n / 256 < 1 ∨ 2048 < n / 256 from by omega)
    have HN := Aside0.mk hn
    clear hok hC hc hby hn
    go_enter Try.func6, Try.ntmps6
    go_wp2_with fail
    refine (of_bad HN.out BAD.out).mono ?_
    rintro e w1 ⟨rfl, hb⟩
    replace K := Aside0.mk (K.out.trans (hb.mono K.out.size))
    clear hb
    go_wp2_with fail
    refine (rof_bad HN.out BAD.out).mono ?_
    rintro e w2 ⟨rfl, hb⟩
    replace K := Aside0.mk (K.out.trans (hb.mono K.out.size))
    clear hb
    go_wp2_with fail
    refine (live_c w2).mono ?_
    rintro e w3 ⟨rfl, hb⟩
    replace K := Aside0.mk (K.out.trans (hb.mono K.out.size))
    clear hb
    go_wp2_with fail
    go_ret
    exact ⟨rfl, K.out⟩
  case pos =>
    have OK := Aside0.mk hok
    have CC := Aside0.mk hC
    have HC := Aside0.mk hc
    have BY := Aside0.mk hby
    have NN := Aside0.mk (show n = 256 * (n / 256) by omega)
    clear hok hC hc hby hn
    go_enter Try.func6, Try.ntmps6
    go_wp2_with fail
    refine (of_ok CC.out HC.out BY.out NN.out OK.out.2.1 OK.out.2.2).mono ?_
    rintro e w1 ⟨g, rfl, hg, hD, hb⟩
    replace CC := Aside0.mk (Kd.C_below CC.out hb)
    replace K := Aside0.mk (K.out.trans (hb.mono K.out.size))
    obtain ⟨s, hs⟩ : ∃ s, s = ofS l (n / 256) (n / 256) := ⟨_, rfl⟩
    have SS := Aside0.mk hs
    rw [← hs] at hD
    have D := Aside0.mk (show Dk w1 g s (fun _ => True) from ⟨_, hD, fun k q => trivial⟩)
    clear hb hg hD hs
    go_wp2_with fail
    refine (rof_ok CC.out HC.out BY.out NN.out OK.out.2.1 OK.out.2.2).mono ?_
    rintro e w2 ⟨gr, rfl, hg, hE, hb⟩
    rw [← SS.out] at hE
    replace D := Aside0.mk (D.out.below hb)
    replace K := Aside0.mk (K.out.trans (hb.mono K.out.size))
    have E := Aside0.mk (show Dr w2 gr s (fun _ => True) from ⟨_, hE, fun k q => trivial⟩)
    have NB := Aside0.mk (show s.B.length ≤ 1000000 from by rw [SS.out, show (ofS l (n / 256) (n / 256)).B.length = n / 256 from ofB_len ..]; have := OK.out.2.2; omega)
    have NP := Aside0.mk (show s.P.length ≤ 120 from by rw [SS.out]; exact Nat.zero_le _)
    have PL := Aside0.mk (Nat.le_trans NP.out (show 120 ≤ 1000000 by decide))
    clear hb hg hE CC SS BY HC NN OK
    go_wp2_with fail
    refine (live_c w2).mono ?_
    rintro e w3 ⟨rfl, hb⟩
    replace D := Aside0.mk (D.out.below hb)
    replace E := Aside0.mk (E.out.below hb)
    replace K := Aside0.mk (K.out.trans (hb.mono K.out.size))
    clear hb
    go_wp2_with fail
    obtain ⟨r, b, hr⟩ : ∃ r b, readS s i = (r, b) := ⟨_, _, rfl⟩
    have BB := Aside0.mk (readS_by D.out.ok.1 D.out.ok.2.1 hr)
    refine (n_read D.out i PL.out hr).mono ?_
    rintro e w4 ⟨Y1, d1, rfl, hO, hb⟩
    replace D := Aside0.mk (D.out.below hb)
    replace E := Aside0.mk (E.out.below hb)
    replace K := Aside0.mk (K.out.trans (hb.mono K.out.size))
    have O1 := Aside0.mk hO
    clear hb hO
    obtain ⟨nb, hnb⟩ : ∃ n, b.length = n := ⟨_, rfl⟩
    have HNB := Aside0.mk hnb
    rw [hnb]
    have HR := Aside0.mk hr
    clear hnb hr
    go_wp2_with fail
    refine (r_read E.out i NB.out PL.out HR.out).mono ?_
    rintro e w5 ⟨Y2, d2, rfl, hO, hb⟩
    replace D := Aside0.mk (D.out.below hb)
    replace E := Aside0.mk (E.out.below hb)
    replace K := Aside0.mk (K.out.trans (hb.mono K.out.size))
    replace O1 := Aside0.mk (own_below O1.out hb)
    have O2 := Aside0.mk hO
    clear hb hO
    rw [HNB.out]
    go_wp2_with fail
    refine (eq_own O1.out O2.out rfl HNB.out BB.out).mono ?_
    rintro e w6 ⟨rfl, hb⟩
    replace D := Aside0.mk (D.out.below hb)
    replace E := Aside0.mk (E.out.below hb)
    replace K := Aside0.mk (K.out.trans (hb.mono K.out.size))
    clear hb O1 O2
    go_wp2_with fail
    refine (same_c D.out E.out NB.out NP.out).mono ?_
    rintro e w7 ⟨rfl, hb⟩
    replace K := Aside0.mk (K.out.trans (hb.mono K.out.size))
    clear hb
    go_wp2_with fail
    go_ret
    exact ⟨rfl, K.out⟩
end Go.Proofs.Ythnadkdfgckijaa.Pure
namespace Go.Proofs.Ythnadkdfgckijaa.Pure
open Go.RowKit Go.Proofs.Ythnadkdfgckijaa Go.Proofs.Ythnadkdfgckijaa.PAll Go.Proofs.Ythnadkdfgckijaa.Mem Go.Proofs.Ythnadkdfgckijaa.Arg Go.Proofs.YthnadkdfgckijaaW.PrintWords Go.Proofs.YthnadkdfgckijaaW.PrintLast Go.Proofs.YthnadkdfgckijaaW.PrintMore
open Go.WideShapes Go.ChangeShapes
set_option linter.unusedVariables false
set_option linter.unusedSimpArgs false

def tyOp : Ty := .cons (.int .i64) (.cons (.int .i64) (.cons (.int .u8) (.cons (.int .i64) (.cons (.int .i64) (.cons (.slice 1 (.int .u8)) .nil)))))
def tyOps : Ty := .slice 64 tyOp
theorem ty22_is : tyOf Try.prog 9 22 = some tyOps := by kernel_rfl
def opOf (x : Int × Int × Int × Int × Int × List Int × Unit) : SOp := ⟨x.1, x.2.1, x.2.2.1, x.2.2.2.1, x.2.2.2.2.1, x.2.2.2.2.2.1⟩
/-- A row of bytes is made of bytes. -/
theorem bytes_of {l : List Int} (h : ∀ x ∈ l, (Lit.int .u8 x).wf = true) : Bytes l := by
  intro x hx
  have := h x hx
  simp [Lit.wf, IntKind.min, IntKind.max, IntKind.signed, IntKind.bits] at this
  omega
theorem opOf_K {w : World} (x : Int × Int × Int × Int × Int × List Int × Unit) (cs : List Value) (h : Ty.K w tyOp x cs) : ∃ Ap cp, cs = [.int .i64 (opOf x).do_, .int .i64 (opOf x).blk, .int .u8 (opOf x).fill, .int .i64 (opOf x).len, .int .i64 (opOf x).n, .slice Ap (opOf x).picks.length cp] ∧ (opOf x).picks.length ≤ cp ∧ (opOf x).picks.length ≤ 140737488351232 ∧ Kd.C (Kd.int .u8) w Ap (opOf x).picks.length (opOf x).picks ∧ Bytes (opOf x).picks := by
  obtain ⟨a, b, c, d, e, l, q⟩ := x
  obtain ⟨c0, c1, rfl, ⟨rfl, _⟩, c2, c3, rfl, ⟨rfl, _⟩, c4, c5, rfl, ⟨rfl, _⟩, c6, c7, rfl, ⟨rfl, _⟩, c8, c9, rfl, ⟨rfl, _⟩, c10, c11, rfl, ⟨A, cc, rfl, hl, hw, hr⟩, hn⟩ := h
  rw [show c11 = [] from hn]
  have hi := ints_of hr
  exact ⟨A, cc, rfl, hl, by have : (l : List Int).length * 1 ≤ 140737488351232 := hw; show l.length ≤ _; omega, hi.1, bytes_of hi.2⟩
theorem ops_of {w : World} {v : Value} {x : List (Int × Int × Int × Int × Int × List Int × Unit)} (h : Ty.K w tyOps x [v]) : ∃ A n c, v = .slice A n c ∧ n ≤ c ∧ OpsAt w A n (List.map opOf x) := by
  obtain ⟨A, c, hv, hl, hw, hr⟩ := h
  injection hv with hv _
  subst hv
  refine ⟨A, _, c, rfl, hl, List.length_map _, by have h2 : x.length * 64 ≤ 140737488351232 := hw; show x.length ≤ _; omega, fun j hj => ?_⟩
  rw [List.length_map] at hj
  obtain ⟨ad, hA, hc⟩ := hr.2.2 (by show 0 < x.length; omega)
  obtain ⟨cs, c1, c2, c3⟩ := hc j _ (List.getElem?_eq_getElem hj)
  obtain ⟨Ap, cp, rfl, p1, p2, p3, p4⟩ := opOf_K _ _ c2
  have eo : (List.map opOf x)[j]'(by rw [List.length_map]; exact hj) = opOf x[j] := List.getElem_map ..
  rw [eo]
  have hs : tyOp.sz = 6 := rfl
  have hcell : ∀ i v, ([Value.int .i64 (opOf x[j]).do_, .int .i64 (opOf x[j]).blk, .int .u8 (opOf x[j]).fill, .int .i64 (opOf x[j]).len, .int .i64 (opOf x[j]).n, .slice Ap (opOf x[j]).picks.length cp] : List Value)[i]? = some v → w.cell? (ad.add (j * 6 + i)) = some v := c3
  refine ⟨ad, Ap, cp, hA, ⟨?_, ?_, ?_, ?_, ?_, ?_⟩, p1, p2, p3, p4⟩
  · exact hcell 0 _ rfl
  · rw [← add_field ad (j * 6) 1 (by decide)]; exact hcell 1 _ rfl
  · rw [← add_field ad (j * 6) 2 (by decide)]; exact hcell 2 _ rfl
  · rw [← add_field ad (j * 6) 3 (by decide)]; exact hcell 3 _ rfl
  · rw [← add_field ad (j * 6) 4 (by decide)]; exact hcell 4 _ rfl
  · rw [← add_field ad (j * 6) 5 (by decide)]; exact hcell 5 _ rfl
end Go.Proofs.Ythnadkdfgckijaa.Pure
namespace Go.Proofs.Ythnadkdfgckijaa.Pure
open Go.RowKit Go.Proofs.Ythnadkdfgckijaa Go.Proofs.Ythnadkdfgckijaa.PAll Go.Proofs.Ythnadkdfgckijaa.Mem Go.Proofs.YthnadkdfgckijaaW.PrintWords Go.Proofs.YthnadkdfgckijaaW.PrintLast Go.Proofs.YthnadkdfgckijaaW.PrintMore
set_option linter.unusedVariables false
set_option linter.unusedSimpArgs false
set_option linter.unusedSectionVars false

def mixK (old b : List Int) (pick : Int) (k : Nat) : List Int := (List.range 256).map (fun j => if j < k ∧ bitB pick (j / 64) = true then b.getD j 0 else old.getD j 0)
theorem mixK_len (old b : List Int) (pick : Int) (k : Nat) : (mixK old b pick k).length = 256 := by simp [mixK]
theorem mixK_get (old b : List Int) (pick : Int) (k j : Nat) (hj : j < 256) : (mixK old b pick k)[j]? = some (if j < k ∧ bitB pick (j / 64) = true then b.getD j 0 else old.getD j 0) := by
  unfold mixK
  rw [List.getElem?_map, List.getElem?_range hj]
  rfl
theorem getD_at {l : List Int} (h : l.length = 256) {j : Nat} (hj : j < 256) : some (l.getD j 0) = l[j]? := by
  rw [List.getD_eq_getElem?_getD, List.getElem?_eq_getElem (by omega)]
  rfl
theorem mixK_zero {old b : List Int} (h : old.length = 256) (pick : Int) : mixK old b pick 0 = old := by
  apply List.ext_getElem?
  intro j
  by_cases hj : j < 256
  · rw [mixK_get _ _ _ _ _ hj, if_neg (fun q => Nat.not_lt_zero _ q.1), getD_at h hj]
  · rw [List.getElem?_eq_none (by rw [mixK_len]; omega), List.getElem?_eq_none (by omega)]
theorem mixK_end {old b : List Int} (h : old.length = 256) (hb : b.length = 256) (pick : Int) : mixK old b pick 256 = mix old b pick := by
  apply List.ext_getElem?
  intro j
  by_cases hj : j < 256
  · rw [mixK_get _ _ _ _ _ hj, mix_get hb h pick j hj]
    by_cases hq : bitB pick (j / 64) = true
    · rw [if_pos ⟨hj, hq⟩, if_pos hq, getD_at hb hj]
    · rw [if_neg (fun q => hq q.2), if_neg hq, getD_at h hj]
  · rw [List.getElem?_eq_none (by rw [mixK_len]; omega), List.getElem?_eq_none (by rw [mix_len hb h]; omega)]
theorem mixK_no (old b : List Int) (pick : Int) (k : Nat) (h : bitB pick (k / 64) = false) : mixK old b pick (k + 1) = mixK old b pick k := by
  unfold mixK
  apply List.map_congr_left
  intro j _
  by_cases hj : j = k
  · subst hj
    rw [if_neg (fun q => by rw [h] at q; cases q.2), if_neg (fun q => by rw [h] at q; cases q.2)]
  · by_cases h1 : j < k ∧ bitB pick (j / 64) = true
    · rw [if_pos h1, if_pos ⟨by omega, h1.2⟩]
    · rw [if_neg h1, if_neg (fun q => h1 ⟨by omega, q.2⟩)]
theorem mixK_set (old b : List Int) (pick : Int) (k : Nat) (hk : k < 256) (h : bitB pick (k / 64) = true) : (mixK old b pick k).set k (b.getD k 0) = mixK old b pick (k + 1) := by
  apply List.ext_getElem?
  intro j
  rw [List.getElem?_set]
  by_cases hj : j < 256
  · rw [mixK_get _ _ _ _ _ hj, mixK_get _ _ _ _ _ hj]
    by_cases e : k = j
    · subst e
      rw [if_pos rfl, if_pos (by rw [mixK_len]; exact hk), if_pos ⟨Nat.lt_succ_self _, h⟩]
    · rw [if_neg e]
      by_cases h1 : j < k ∧ bitB pick (j / 64) = true
      · rw [if_pos h1, if_pos ⟨by omega, h1.2⟩]
      · rw [if_neg h1, if_neg (fun q => h1 ⟨by omega, q.2⟩)]
  · rw [if_neg (by omega), List.getElem?_eq_none (by rw [mixK_len]; omega), List.getElem?_eq_none (by rw [mixK_len]; omega)]
/-- A block of a disk gets a new row. -/
theorem RowsAt.put {w : World} {gB c : Nat} {F : Nat → Prop} {B : List (List Int)} (h : RowsAt w (some ⟨gB, 0, none⟩) c F B) {I : Nat} (hI : I < B.length) {gY d : Nat} {r : List Int} (hO : Own w 0 (some ⟨gY, 0, none⟩) d r) (hr : r.length = 256 ∧ Bytes r) (hgY : ¬ F gY) :
    RowsAt (w.setCell ⟨gB, I, none⟩ (.slice (some ⟨gY, 0, none⟩) 256 d)) (some ⟨gB, 0, none⟩) c (fun k => F k ∨ k = gY) (B.set I r) := by
  obtain ⟨ok, gB', gs, cs, cur, h1, h2, h3, h4, h5, h6⟩ := h
  injection h1 with h1
  injection h1 with h1
  subst h1
  obtain ⟨g', cur', e1, _, e3, e4⟩ := hO.blk (by omega)
  injection e1 with e1
  injection e1 with e1
  subst e1
  have hs := blk_set h4 I (.slice (some ⟨gY, 0, none⟩) 256 d)
  rw [List.setIfInBounds_toArray] at hs
  have hcl : I < cur.length := by
    have := (h5 I hI).1
    exact (List.getElem?_eq_some_iff.1 this).1
  have hne : gY ≠ gB := fun e => hgY (e ▸ h3)
  refine ⟨fun b hb => ?_, gB, fun i => if i = I then gY else gs i, fun i => if i = I then d else cs i, cur.set I (.slice (some ⟨gY, 0, none⟩) 256 d), rfl, by rw [List.length_set]; exact h2, .inl h3, hs, fun i hi => ?_, fun i j hi hj => ?_⟩
  · rcases List.mem_or_eq_of_mem_set hb with q | q
    · exact ok b q
    · rw [q]; exact hr
  · rw [List.length_set] at hi
    obtain ⟨q1, q2, q3, q4, bc, q5, q6⟩ := h5 i hi
    dsimp only
    by_cases e : i = I
    · subst e
      rw [if_pos rfl, if_pos rfl, List.getElem?_set, if_pos rfl, if_pos hcl]
      refine ⟨rfl, by have := hO.cap; omega, .inr rfl, hne, cur', (Below.heap_setCell w _ _ gY hne).trans e3, ?_⟩
      rw [List.getD_eq_getElem?_getD, List.getElem?_set, if_pos rfl, if_pos hi, Option.getD_some, ← hr.1]
      exact e4
    · rw [if_neg e, if_neg e, List.getElem?_set, if_neg (fun q => e q.symm)]
      refine ⟨q1, q2, .inl q3, q4, bc, (Below.heap_setCell w _ _ (gs i) q4).trans q5, ?_⟩
      rw [List.getD_eq_getElem?_getD, List.getElem?_set, if_neg (fun q => e q.symm), ← List.getD_eq_getElem?_getD]
      exact q6
  · rw [List.length_set] at hi hj
    dsimp only
    by_cases ei : i = I <;> by_cases ej : j = I
    · intro _; omega
    · rw [if_pos ei, if_neg ej]
      intro q
      exact absurd (q ▸ (h5 j hj).2.2.1) hgY
    · rw [if_neg ei, if_pos ej]
      intro q
      exact absurd (q ▸ (h5 i hi).2.2.1) hgY
    · rw [if_neg ei, if_neg ej]
      exact h6 i j hi hj
/-- A block of the document's disk gets a new row. -/
theorem DR.put {w0 w : World} {g : Nat} {U : Nat → Prop} {s : DS} (h0 : DR w0 g U s) (hb : Below w0.heap.size w0 w) {I : Nat} (hI : I < s.B.length) {gY d : Nat} {r : List Int} (hO : Own w w0.heap.size (some ⟨gY, 0, none⟩) d r) (hr : r.length = 256 ∧ Bytes r) :
    ∃ gB c v1 v2 v3 v4 v5, w.heap[g]? = some (.cells (dkCs (some ⟨gB, 0, none⟩) s.B.length c v1 v2 v3 v4 v5) 112 (0, 0)) ∧ (U gB ∧ gB ≠ g) ∧ (∃ v, w.cell? ⟨gB, I, none⟩ = some v) ∧ w.frozen? ⟨gB, I, none⟩ = false ∧
      DR (w.setCell ⟨gB, I, none⟩ (.slice (some ⟨gY, 0, none⟩) 256 d)) g (fun k => U k ∨ k = gY) { s with B := s.B.set I r } := by
  have hgY : w0.heap.size ≤ gY ∧ gY < w.heap.size := own_lt hO gY (by omega) rfl
  obtain ⟨lt, ug, pen, pos, A, Ak, c, ck, vP, FB, FW, FK, h1, h2, h3, h4, h5, h6, h7, h8⟩ := h0.below hb
  have lt0 := h0.lt
  obtain ⟨gB, x, cx, rfl, fgB, _, q1, _⟩ := row_read h2 hI
  have hnF : ¬ FB gY := fun q => by have := lt0 _ (h6 _ q).1; omega
  have hp := h2.put hI (own_lower hO (Nat.zero_le _)) hr hnF
  have hbl := Below.heap_setCell w ⟨gB, I, none⟩ (.slice (some ⟨gY, 0, none⟩) 256 d)
  have hgne : g ≠ gB := fun e => (h6 _ fgB).2 e.symm
  obtain ⟨_, gB', gs, cs, cur, e1, _, _, hcell, _⟩ := h2
  injection e1 with e1
  injection e1 with e1
  subst e1
  refine ⟨gB, c, vP, _, _, _, _, h1, h6 _ fgB, ⟨_, q1⟩, blk_frozen hcell I, fun k hk => ?_, .inl ug, by rw [show (_ : DS).B.length = s.B.length from List.length_set ..]; exact pen, by rw [show (_ : DS).B.length = s.B.length from List.length_set ..]; exact pos, some ⟨gB, 0, none⟩, Ak, c, ck, vP, fun k => FB k ∨ k = gY, FW, FK, by rw [show (_ : DS).B.length = s.B.length from List.length_set ..]; exact (hbl g hgne).trans h1, hp,
    Kd.R_step h3 (fun k hk hlt => hbl k (fun e => (h7 k hk).2.2 (by rw [show k = gB from e]; exact fgB))), Kd.F_step h4 (fun k hk hlt => hbl k (fun e => (h8 k hk).2.2.1 (by rw [show k = gB from e]; exact fgB))), h5, fun k hk => ?_, fun k hk => ?_, fun k hk => ?_⟩
  · rw [World.size_setCell]
    rcases hk with q | q
    · exact lt k q
    · rw [q]; exact hgY.2
  · rcases hk with q | q
    · exact ⟨.inl (h6 k q).1, (h6 k q).2⟩
    · refine ⟨.inr q, fun e => ?_⟩
      have := lt0 _ h0.ug
      omega
  · refine ⟨.inl (h7 k hk).1, (h7 k hk).2.1, ?_⟩
    rintro (q | q)
    · exact (h7 k hk).2.2 q
    · have := lt0 _ (h7 k hk).1; omega
  · refine ⟨.inl (h8 k hk).1, (h8 k hk).2.1, ?_, (h8 k hk).2.2.2⟩
    rintro (q | q)
    · exact (h8 k hk).2.2.1 q
    · have := lt0 _ (h8 k hk).1; omega
theorem sh_q {k : Nat} (h : k < 256) : IntKind.i64.wrap ((k : Int) / 64) = ((k / 64 : Nat) : Int) := by rw [i64_w, w64id (by omega) (by omega)]; omega
theorem u64_nat {m : Nat} (h : m < 256) {J : Int} (hJ : J = (m : Int)) : (IntKind.u64.wrap J).toNat = m := by
  subst hJ
  simp [IntKind.wrap, IntKind.min, IntKind.bits, IntKind.signed]
  omega
theorem old_F {w : World} {x cx : Nat} {old : List Int} (h : Kd.C (Kd.int .u8) w (some ⟨x, 0, none⟩) 256 old) : old.length = 256 := h.1
set_option maxRecDepth 100000 in
set_option maxHeartbeats 16000000 in
theorem r_reach {w : World} {g : Nat} {U : Nat → Prop} {s : DS} (hD : DR w g U s) {I : Nat} (hI : I < s.B.length) {b : List Int} {Ab : Option Addr} {cb : Nat} (hb : b.length = 256) (hby : Bytes b) (hC : Kd.C (Kd.int .u8) w Ab 256 b) (hcb : 256 ≤ cb) (pick : Int) :
    Calls Try.prog 91 #[.pointer (some ⟨g, 0, none⟩), .agg #[.int .i64 (I : Int), .slice Ab 256 cb], .int .u8 pick] w fun e w' => e = .returned (.tuple #[]) ∧ Fr U w w' ∧ w'.heap[g]? = w.heap[g]? ∧ ∃ U', DR w' g U' { s with B := reachB s.B ((I : Int), b) pick } ∧ ∀ k, U' k → U k ∨ w.heap.size ≤ k := by
  have D0 := Aside0.mk hD
  have HI := Aside0.mk hI
  have HB := Aside0.mk (And.intro hb hby)
  have HCB := Aside0.mk hcb
  have BN := Aside0.mk ((Below.refl w.heap.size w).alloc (Nat.le_refl _) (.cells #[.int .i64 (I : Int), .slice Ab 256 cb] 43))
  have XN := Aside0.mk (heap_new w (.cells #[.int .i64 (I : Int), .slice Ab 256 cb] 43))
  have CB := Aside0.mk (Kd.C_below (show Kd.C (Kd.int .u8) w Ab b.length b from by rw [hb]; exact hC) BN.out)
  obtain ⟨w1, hw1⟩ : ∃ x, x = w.alloc (.cells #[.int .i64 (I : Int), .slice Ab 256 cb] 43) := ⟨_, rfl⟩
  obtain ⟨g4, hg4⟩ : ∃ x, x = w.heap.size := ⟨_, rfl⟩
  rw [← hw1] at BN XN CB
  have G4 := Aside0.mk (show w.heap.size ≤ g4 ∧ g4 < w1.heap.size from ⟨Nat.le_of_eq hg4.symm, by rw [hg4]; exact blk_lt XN.out⟩)
  rw [← hg4] at XN
  obtain ⟨lt, ug, pen, pos, A, Ak, c, ck, vP, FB, FW, FK, h1, h2, h3, h4, h5, h6, h7, h8⟩ := hD.below BN.out
  obtain ⟨NB, hNB⟩ : ∃ n, n = s.B.length := ⟨_, rfl⟩
  rw [← hNB] at h1
  have hIN : I < NB := hNB ▸ hI
  obtain ⟨gB, x, cx, rfl, fB, fx, y0, y1, hCo, y3⟩ := row_read h2 hI
  obtain ⟨old, hold⟩ : ∃ o, o = s.B.getD I [] := ⟨_, rfl⟩
  have OLD := Aside0.mk hold
  have OK := Aside0.mk (getD_ok h2.ok hI)
  rw [← hold] at hCo y3 OK
  have CO := Aside0.mk (show Kd.C (Kd.int .u8) w1 (some ⟨x, 0, none⟩) 256 old from hCo)
  obtain ⟨z0, _, _, _, _, _⟩ := dk_cells h1
  obtain ⟨x0, x1⟩ := two_cells XN.out
  have HNB := Aside0.mk hNB
  clear hNB hD hI hb hby hC hcb lt ug pen pos h1 h2 h3 h4 h5 h6 h7 h8 fB fx y1 y3 hCo hold
  go_enter Try.func91, Try.ntmps91
  go_wp2_with fail
  rw [← hw1, ← hg4]
  clear hw1 hg4
  go_region_law (refine Kd.R_append_rows_step (Kd.int .u8) (W := w1.drew) (w0 := w1) w1.heap.size (by rfl) (.const (.slice none 0 0)) (.tmp 15) 26 5 (.int .u8 0) 1 rfl Try.underlying26 info5 rfl (by decide) (by decide) (.slice none 0 0) [] old (some ⟨x, 0, none⟩) 256 cx (fun _ => True) (fun _ => False) rfl rfl (Kd.R_nil _ _ _ _ _) (show ReadsRow _ 1 w1.drew _ 256 old from CO.out) (fun _ _ h => h) (fun _ h => h.elim) (fun _ _ => trivial) (below_drew (Below.refl _ _)) (Nat.le_refl _) (by simp) ?_; intro v1 w2 ho hb hg hat; rw [List.nil_append] at ho; obtain ⟨Y, d, rfl, hO⟩ := own_of ho; obtain ⟨gY, cur, rfl, hgY, _, _⟩ := hO.blk (by rw [OK.out.1]; decide); rw [OK.out.1]; have OO := Aside0.mk (show Own w2 w1.heap.size (some ⟨gY, 0, none⟩) d (mixK old b pick 0) from by rw [mixK_zero OK.out.1]; exact hO); have B2 := Aside0.mk (show Below w1.heap.size w1 w2 from hb); have GY := Aside0.mk (show w1.heap.size ≤ gY from hgY); clear ho hb hg hat hO hgY z0 y0 x0 x1 CO)
  all_goals
    have FB2 := Aside0.mk (Kd.F_below (F_arg CB.out) B2.out)
    have X2 := Aside0.mk ((B2.out.block _ (blk_lt XN.out)).trans XN.out)
    clear hIN
    go_wp2_with fail
    go_loopg [7] 256 (fun q v w' => ∃ (k : Nat), v = .int .i64 (k : Int) ∧ Aside0 (k + q = 256) ∧ Aside0 (Own w' w1.heap.size (some ⟨gY, 0, none⟩) d (mixK old b pick k)) ∧ Aside0 (Fr (· = gY) w2 w'))
    case atStart => exact ⟨0, rfl, ⟨Nat.zero_add _⟩, OO, ⟨Fr.refl _ _⟩⟩
    case round =>
      clear OO
      obtain ⟨k, rfl, HJ, JJ, FF⟩ := hrel
      by_cases hlt : k < 256
      case pos =>
        have hgd : decide ((k : Int) < 256) = true := (di_t hlt).1
        have hgd2 : decide (k < 256) = true := (di_t hlt).2
        have HN1 := Aside0.mk (st_n HJ.out hlt).1
        have HM := Aside0.mk (st_n HJ.out hlt).2
        have HV := Aside0.mk (stepv hlt (by decide))
        have HLT := Aside0.mk hlt
        obtain ⟨J, hJ⟩ : ∃ J : Int, J = ((k / 64 : Nat) : Int) := ⟨_, rfl⟩
        have hq : IntKind.i64.wrap ((k : Int) / 64) = J := (sh_q hlt).trans hJ.symm
        have HJJ := Aside0.mk hJ
        clear hJ
        obtain ⟨ad, hAd, c1⟩ := u8_at (F_fr FB2.out FF.out (fun q hq e => by subst e; exact Nat.lt_irrefl _ (Nat.lt_of_lt_of_le hq GY.out))) (show k < b.length by rw [HB.out.1]; exact hlt)
        obtain ⟨y0, y1⟩ := two_cells (fr_blk FF.out X2.out (fun e => by have := G4.out.2; have := GY.out; omega))
        subst hAd
        obtain ⟨bt, hbt0⟩ : ∃ x, x = bitB pick (k / 64) := ⟨_, rfl⟩
        have hbt : (Go.bits .and .u8 (pick / 2 ^ min (IntKind.u64.wrap J).toNat 8) 1 == 1) = bt := by
          rw [u64_nat (m := k / 64) (by omega) HJJ.out]
          exact hbt0.symm
        have BT := Aside0.mk hbt0
        clear hbt0
        cases bt
        case false =>
          have JN := Aside0.mk (show Own wr w1.heap.size (some ⟨gY, 0, none⟩) d (mixK old b pick (k + 1)) from by rw [mixK_no _ _ _ _ BT.out.symm]; exact JJ.out)
          clear c1 y0 y1
          go_wp2_with fail
          go_roundg (gk - 1)
          case measure => exact HM.out
          case rel => exact ⟨k + 1, by first | exact HV.out | rfl, HN1, JN, FF⟩
        case true =>
          have hbk : b[k]'(by rw [HB.out.1]; exact hlt) = b.getD k 0 := by rw [List.getD_eq_getElem?_getD, List.getElem?_eq_getElem (by rw [HB.out.1]; exact hlt)]; rfl
          rw [hbk] at c1
          obtain ⟨bv, hbv⟩ : ∃ x, x = b.getD k 0 := ⟨_, rfl⟩
          have JN := Aside0.mk (own_set JJ.out (show k < (mixK old b pick k).length by rw [mixK_len]; exact hlt) (b.getD k 0))
          rw [mixK_set _ _ _ _ hlt BT.out.symm, ← hbv] at JN
          rw [← hbv] at c1
          obtain ⟨c0, f0⟩ := own_cell JJ.out (show k < (mixK old b pick k).length by rw [mixK_len]; exact hlt)
          have FN := Aside0.mk (FF.out.set (p := ⟨gY, k, none⟩) rfl (.int .u8 bv))
          clear hbk hbv
          go_wp2_with fail
          go_roundg (gk - 1)
          case measure => exact HM.out
          case rel => exact ⟨k + 1, by first | exact HV.out | rfl, HN1, JN, FN⟩
      have hke : k = 256 := en_k HJ.out hlt
      subst hke
      have hge : decide (((256 : Nat) : Int) < 256) = false := by decide
      clear hlt
      rw [mixK_end OK.out.1 HB.out.1] at JJ
      have BW := Aside0.mk ((FF.out.below (B2.out.mono (Nat.le_refl _)) (fun q e => e ▸ GY.out) B2.out.size))
      have BWW := Aside0.mk (BN.out.trans (BW.out.mono BN.out.size))
      obtain ⟨gB', c', u1, u2, u3, u4, u5, p1, p2, ⟨vo, p3⟩, p4, p5⟩ := D0.out.put BWW.out.drew HI.out (d := d) (gY := gY) (r := mix old b pick) (own_lower (own_below JJ.out (below_drew (Below.refl _ _))) BN.out.size) ⟨mix_len HB.out.1 OK.out.1 pick, mix_bytes HB.out.1 OK.out.1 pick HB.out.2 OK.out.2⟩
      rw [← HNB.out] at p1
      obtain ⟨q0, _, _, _, _, _⟩ := dk_cells p1
      have z0 : wr.cell? ⟨g, 0, none⟩ = some (.slice (some ⟨gB', 0, none⟩) NB c') := q0
      have y0 : wr.cell? ⟨gB', I, none⟩ = some vo := p3
      have f0 : wr.frozen? ⟨gB', I, none⟩ = false := p4
      have hIN : I < NB := HNB.out ▸ HI.out
      obtain ⟨x0, x1⟩ := two_cells (fr_blk FF.out X2.out (fun e => by have := G4.out.2; have := GY.out; omega))
      have PN := Aside0.mk p5
      have UG := Aside0.mk p2
      clear p1 p2 p3 p4 p5 q0
      go_wp2_with fail
      go_region_with fail
      all_goals
        go_wp2_with fail
        go_end0
        refine ⟨rfl, ?_, (Below.heap_setCell wr _ _ g (fun e => UG.out.2 e.symm)).trans (BWW.out.block g (D0.out.lt g D0.out.ug)), _, ?_, (show ∀ q, U q ∨ q = gY → U q ∨ w.heap.size ≤ q from fun q hq => hq.elim .inl (fun e => .inr (e ▸ Nat.le_trans BN.out.size GY.out)))⟩
        · exact (Fr.of_below (BWW.out.drew)).set (p := ⟨gB', I, none⟩) UG.out.1 _
        · have := PN.out
          unfold reachB
          rw [Int.toNat_natCast, ← OLD.out]
          exact this
end Go.Proofs.Ythnadkdfgckijaa.Pure
namespace Go.Proofs.Ythnadkdfgckijaa.Pure
open Go.RowKit Go.Proofs.Ythnadkdfgckijaa Go.Proofs.Ythnadkdfgckijaa.PAll Go.Proofs.Ythnadkdfgckijaa.Mem Go.Proofs.YthnadkdfgckijaaW.PrintWords Go.Proofs.YthnadkdfgckijaaW.PrintLast Go.Proofs.YthnadkdfgckijaaW.PrintMore
set_option linter.unusedVariables false
set_option linter.unusedSimpArgs false
set_option linter.unusedSectionVars false

/-- The document's disk's head. -/
abbrev hdR (A AP Ak : Option Addr) (nB c nP cP : Nat) (off : Bool) (ops armed : Int) (nK ck : Nat) : Obj := .cells (dkCs A nB c (.slice AP nP cP) (.bool off) (.int .i64 ops) (.int .i64 armed) (.slice Ak nK ck)) 112 (0, 0)
theorem DR.hd {w : World} {g : Nat} {U : Nat → Prop} {s : DS} (h : DR w g U s) : ∃ (A AP Ak : Option Addr) (c cP ck : Nat), w.heap[g]? = some (hdR A AP Ak s.B.length c s.P.length cP s.off s.ops s.armed s.picks.length ck) ∧ s.P.length ≤ cP ∧ s.picks.length ≤ ck ∧ (∃ UP, Kd.F kW w UP AP s.P.length s.P) ∧ (∃ UK : Nat → Prop, Kd.F (Kd.int .u8) w UK Ak s.picks.length s.picks) := by
  obtain ⟨lt, ug, pen, pos, A, Ak, c, ck, vP, FB, FW, FK, h1, h2, h3, h4, h5, h6, h7, h8⟩ := h
  obtain ⟨AP, cP, rfl, hcP, hPF⟩ := R_own h3
  exact ⟨A, AP, Ak, c, cP, ck, h1, hcP, h5, ⟨_, hPF⟩, ⟨_, h4⟩⟩
theorem hdR_inj {A AP Ak A' AP' Ak' : Option Addr} {nB c nP cP nK ck nB' c' nP' cP' nK' ck' : Nat} {off off' : Bool} {ops armed ops' armed' : Int} (h : some (hdR A AP Ak nB c nP cP off ops armed nK ck) = some (hdR A' AP' Ak' nB' c' nP' cP' off' ops' armed' nK' ck')) : A' = A ∧ c' = c ∧ AP' = AP ∧ cP' = cP ∧ Ak' = Ak ∧ ck' = ck := by
  simp [dkCs] at h
  obtain ⟨⟨h1, h2, h3⟩, ⟨h4, h5, h6⟩, h7, h8, h9, h10, h11, h12⟩ := h
  exact ⟨h1.symm, h3.symm, h4.symm, h6.symm, h10.symm, h12.symm⟩
/-- Picks that stay readable while writes reach the medium. -/
def PicksOk (w : World) (g : Nat) (U : Nat → Prop) (s : DS) (Ax : Option Addr) (ps : List Int) : Prop := ∀ (w' : World) (U' : Nat → Prop) (B' : List (List Int)), B'.length = s.B.length → DR w' g U' { s with B := B' } → w'.heap[g]? = w.heap[g]? → Fr U w w' → ∀ k (h : k < ps.length), ∃ ad, Ax = some ad ∧ w'.cell? (ad.add k) = some (.int .u8 ps[k])
theorem picks_far {w : World} {g : Nat} {U UX : Nat → Prop} {s : DS} {Ax : Option Addr} {ps : List Int} (hX : Kd.F (Kd.int .u8) w UX Ax ps.length ps) (hUX : ∀ k, UX k → ¬ U k) : PicksOk w g U s Ax ps := fun w' U' B' _ _ _ hf k hk => u8_at (F_fr hX hf hUX) hk
theorem picks_own {w : World} {g : Nat} {U : Nat → Prop} {s : DS} {A AP Ak : Option Addr} {nB c nP cP ck : Nat} {off : Bool} {ops armed : Int} (h : w.heap[g]? = some (hdR A AP Ak nB c nP cP off ops armed s.picks.length ck)) : PicksOk w g U s Ak s.picks := fun w' U' B' _ hD he hf k hk => by
  obtain ⟨A', AP', Ak', c', cP', ck', h1, _, _, _, UK, h2⟩ := hD.hd
  rw [he, h] at h1
  obtain ⟨_, _, _, _, e, _⟩ := hdR_inj h1
  rw [e] at h2
  exact u8_at h2 hk
/-- Stores into the head leave a disk. -/
theorem DR.head {w : World} {g : Nat} {U : Nat → Prop} {s : DS} (h : DR w g U s) {w' : World} (hf : Fr (· = g) w w') {off : Bool} {ops armed : Int} {A AP Ak : Option Addr} {c cP ck : Nat} (h0 : w.heap[g]? = some (hdR A AP Ak s.B.length c s.P.length cP s.off s.ops s.armed s.picks.length ck)) :
    (w'.heap[g]? = some (hdR A AP Ak s.B.length c s.P.length cP off ops armed s.picks.length ck) → DR w' g U { s with off := off, ops := ops, armed := armed }) ∧
    (w'.heap[g]? = some (hdR A none Ak s.B.length c 0 0 off ops armed s.picks.length ck) → DR w' g U { s with P := [], off := off, ops := ops, armed := armed }) ∧
    (w'.heap[g]? = some (hdR A none none s.B.length c 0 0 off ops armed 0 0) → DR w' g U { s with P := [], off := off, ops := ops, armed := armed, picks := [] }) := by
  obtain ⟨lt, ug, pen, pos, A1, Ak1, c1, ck1, vP, FB, FW, FK, h1, h2, h3, h4, h5, h6, h7, h8⟩ := h
  obtain ⟨AP1, cP1, rfl, hcP, hPF⟩ := R_own h3
  rw [h1] at h0
  obtain ⟨rfl, rfl, rfl, rfl, rfl, rfl⟩ := hdR_inj h0.symm
  have lt' : ∀ k, U k → k < w'.heap.size := fun k hk => Nat.lt_of_lt_of_le (lt k hk) hf.size
  have h2' := h2.fr hf (fun k hk e => (h6 k hk).2 e)
  have h3' := Kd.R_step h3 (fun k hk hlt => hf.block k hlt (h7 k hk).2.1)
  have h4' := F_fr h4 hf (fun k hk => (h8 k hk).2.1)
  refine ⟨fun hh => ⟨lt', ug, pen, pos, _, _, _, _, _, FB, FW, FK, hh, h2', h3', h4', h5, h6, h7, h8⟩, fun hh => ⟨lt', ug, fun x hx => (by cases hx), pos, _, _, _, _, _, FB, fun _ => False, FK, hh, h2', Kd.R_nil _ _ _ _ _, h4', h5, h6, fun k hk => hk.elim, fun k hk => ⟨(h8 k hk).1, (h8 k hk).2.1, (h8 k hk).2.2.1, fun q => q⟩⟩, fun hh => ⟨lt', ug, fun x hx => (by cases hx), pos, _, _, _, _, _, FB, fun _ => False, fun _ => False, hh, h2', Kd.R_nil _ _ _ _ _, Kd.F_nil _ _ _, Nat.le_refl _, h6, fun k hk => hk.elim, fun k hk => hk.elim⟩⟩
set_option maxRecDepth 100000 in
theorem r_crash_off {w : World} {g : Nat} {U : Nat → Prop} {s : DS} (hD : DR w g U s) (ho : s.off = true) (v : Value) : Calls Try.prog 69 #[.pointer (some ⟨g, 0, none⟩), v] w fun e w' => e = .returned (.int .i64 5) ∧ Below w.heap.size w w' := by
  obtain ⟨A, AP, Ak, c, cP, ck, h1, _⟩ := hD.hd
  obtain ⟨_, _, z2, _, _, _⟩ := dk_cells h1
  rw [ho] at z2
  clear hD h1 ho
  go_enter Try.func69, Try.ntmps69
  go_wp2_with fail
  go_ret
  exact ⟨rfl, Below.refl _ _⟩
/-- What is known while a crash lets writes reach the medium. -/
structure InCrash (w w' : World) (g : Nat) (U : Nat → Prop) (s : DS) (L : List ((Int × List Int) × Int)) : Prop where
  out : ∃ U', DR w' g U' { s with B := fallB s.B L } ∧ ∀ q, U' q → U q ∨ w.heap.size ≤ q
  head : w'.heap[g]? = w.heap[g]?
  fr : Fr U w w'
theorem InCrash.start {w : World} {g : Nat} {U : Nat → Prop} {s : DS} (h : DR w g U s) : InCrash w w g U s [] := ⟨⟨U, h, fun _ q => .inl q⟩, rfl, Fr.refl _ _⟩
theorem InCrash.drew {w w' : World} {g : Nat} {U : Nat → Prop} {s : DS} {L : List ((Int × List Int) × Int)} (h : InCrash w w' g U s L) : InCrash w w'.drew g U s L := by
  obtain ⟨⟨U', h1, h2⟩, h3, h4⟩ := h
  exact ⟨⟨U', h1.below (below_drew (Below.refl _ _)), h2⟩, h3, h4.then_ (Fr.of_below (below_drew (Below.refl _ _)))⟩
/-- The pending write that comes next, as it is read. -/
theorem InCrash.next {w w' : World} {g : Nat} {U : Nat → Prop} {s : DS} {L : List ((Int × List Int) × Int)} (h : InCrash w w' g U s L) {A AP Ak : Option Addr} {c cP ck : Nat} (h0 : w.heap[g]? = some (hdR A AP Ak s.B.length c s.P.length cP s.off s.ops s.armed s.picks.length ck)) (hpen : PenOk s.B.length s.P) {k : Nat} (hk : k < s.P.length) :
    ∃ ad Ab cb I, AP = some ad ∧ w'.cell? ⟨g, 1, none⟩ = some (.slice (some ad) s.P.length cP) ∧ w'.cell? (ad.add (k * 2)) = some (.int .i64 (I : Nat)) ∧ w'.cell? ⟨(ad.add (k * 2)).block, (ad.add (k * 2)).off + 1, none⟩ = some (.slice Ab 256 cb) ∧ s.P[k] = ((I : Int), pB s.P k) ∧
      ∀ (w2 : World) (pick : Int), Below w'.heap.size w' w2 → Calls Try.prog 91 #[.pointer (some ⟨g, 0, none⟩), .agg #[.int .i64 (I : Int), .slice Ab 256 cb], .int .u8 pick] w2 fun e w3 => e = .returned (.tuple #[]) ∧ InCrash w w3 g U s (L ++ [(((I : Int), pB s.P k), pick)]) := by
  obtain ⟨⟨U', hD, hU⟩, he, hf⟩ := h
  obtain ⟨A', AP', Ak', c', cP', ck', g1, g2, g3, ⟨UP, g4⟩, g5⟩ := hD.hd
  have hBl : (fallB s.B L).length = s.B.length := fallB_len s.B L
  have e0 := he.trans h0
  rw [e0, show ({ s with B := fallB s.B L } : DS).B.length = s.B.length from hBl] at g1
  obtain ⟨_, _, e1, e2, _, _⟩ := hdR_inj g1
  subst e1 e2
  have hm := List.getElem_mem hk
  obtain ⟨p1, p2, p3, p4⟩ := hpen _ hm
  have eP : s.P.getD k (0, []) = s.P[k] := by rw [List.getD_eq_getElem?_getD, List.getElem?_eq_getElem hk]; rfl
  obtain ⟨ad, Ab, cb, rfl, q0, q1, q2, q3, q4⟩ := pen_read' (show Kd.F kW w' UP AP' s.P.length s.P from g4) (fun x hx => (hpen x hx).2.2.1) hk
  obtain ⟨_, z1, _, _, _, _⟩ := dk_cells e0
  obtain ⟨I, hI⟩ : ∃ I : Nat, pI s.P k = (I : Int) := ⟨(pI s.P k).toNat, by unfold pI; rw [eP]; omega⟩
  have hIB : I < s.B.length := by
    have : (s.P[k]).1 = (I : Int) := by rw [← hI]; unfold pI; rw [eP]
    omega
  rw [hI] at q0
  refine ⟨ad, Ab, cb, I, rfl, z1, q0, q1, ?_, fun w2 pick hw2 => ?_⟩
  · rw [← hI]; unfold pI pB; rw [eP]
  · refine (r_reach (hD.below hw2) (I := I) (by rw [show ({ s with B := fallB s.B L } : DS).B.length = s.B.length from hBl]; exact hIB) q4 (by unfold pB; rw [eP]; exact p4) (Kd.C_below (Kd.F_now q3) hw2) q2 pick).mono ?_
    rintro e w3 ⟨rfl, f3, e3, U3, D3, U3'⟩
    have hsz : w.heap.size ≤ w2.heap.size := Nat.le_trans hf.size hw2.size
    refine ⟨rfl, ⟨U3, ?_, fun q hq => ?_⟩, e3.trans ((hw2.block g (hD.lt g hD.ug)).trans he), (hf.then_ (Fr.of_below hw2)).trans f3 hU⟩
    · unfold fallB at D3 ⊢
      rw [List.foldl_append]
      exact D3
    · rcases U3' q hq with h | h
      · exact hU q h
      · exact .inr (Nat.le_trans hsz h)
theorem zip_next {P : List (Int × List Int)} {ps : List Int} {k : Nat} (h1 : k < P.length) (h2 : k < ps.length) : (P.zip ps).take k ++ [(P[k], ps[k])] = (P.zip ps).take (k + 1) := by
  rw [List.take_add_one, List.getElem?_eq_getElem (by rw [List.length_zip]; omega), List.getElem_zip]
  rfl
theorem zip_done {P : List (Int × List Int)} {ps : List Int} {k : Nat} (h : ¬ (k < P.length ∧ k < ps.length)) : (P.zip ps).take k = P.zip ps := List.take_of_length_le (by rw [List.length_zip]; omega)
/-- The stores at a crash's end. -/
theorem InCrash.done {w w' : World} {g : Nat} {U : Nat → Prop} {s : DS} {ps : List Int} (h : InCrash w w' g U s (s.P.zip ps)) {A AP Ak : Option Addr} {c cP ck : Nat} (h0 : w.heap[g]? = some (hdR A AP Ak s.B.length c s.P.length cP s.off s.ops s.armed s.picks.length ck)) {w2 : World}
    (hw2 : w2 = (((w'.setCell ⟨g, 1, none⟩ (.slice none 0 0)).setCell ⟨g, 2, none⟩ (.bool true)).setCell ⟨g, 4, none⟩ (.int .i64 0)).setCell ⟨g, 5, none⟩ (.slice none 0 0)) : Fr U w w2 ∧ ∃ U', DR w2 g U' (fallsS s ps) ∧ ∀ q, U' q → U q ∨ w.heap.size ≤ q := by
  obtain ⟨⟨U', hD, hU⟩, he, hf⟩ := h
  have e0 := he.trans h0
  have b1 := blk_set e0 1 (.slice none 0 0)
  have b2 := blk_set b1 2 (.bool true)
  have b4 := blk_set b2 4 (.int .i64 0)
  have b5 := blk_set b4 5 (.slice none 0 0)
  rw [← hw2] at b5
  have hfg : Fr (· = g) w' w2 := by
    rw [hw2]
    exact ((((Fr.refl (fun x => x = g) _).set (p := ⟨g, 1, none⟩) rfl _).set (p := ⟨g, 2, none⟩) rfl _).set (p := ⟨g, 4, none⟩) rfl _).set (p := ⟨g, 5, none⟩) rfl _
  have hBl : (fallB s.B (s.P.zip ps)).length = s.B.length := fallB_len s.B _
  refine ⟨hf.trans hfg (fun q e => hU q (e ▸ hD.ug)), U', ?_, hU⟩
  have := (hD.head hfg (off := true) (ops := s.ops) (armed := 0) (A := A) (AP := AP) (Ak := Ak) (c := c) (cP := cP) (ck := ck) (by rw [show ({ s with B := fallB s.B (s.P.zip ps) } : DS).B.length = s.B.length from hBl]; exact e0)).2.2 (by rw [show ({ s with B := fallB s.B (s.P.zip ps) } : DS).B.length = s.B.length from hBl]; exact b5)
  exact this
set_option maxRecDepth 100000 in
set_option maxHeartbeats 16000000 in
theorem r_crash {w : World} {g : Nat} {U : Nat → Prop} {s : DS} (hD : DR w g U s) (ho : s.off = false) {Ax : Option Addr} {nx cx : Nat} {ps : List Int} (hn : ps.length = nx) (hX : PicksOk w g U s Ax ps) (hPl : s.P.length ≤ 1000000) : Calls Try.prog 69 #[.pointer (some ⟨g, 0, none⟩), .slice Ax nx cx] w fun e w' => e = .returned (.int .i64 0) ∧ Fr U w w' ∧ ∃ U', DR w' g U' (fallsS s ps) ∧ ∀ q, U' q → U q ∨ w.heap.size ≤ q := by
  obtain ⟨A, AP, Ak, c, cP, ck, h1, _⟩ := hD.hd
  have H1 := Aside0.mk h1
  have XX := Aside0.mk hX
  have NX := Aside0.mk hn
  have PEN := Aside0.mk hD.pen
  have C0 := Aside0.mk (InCrash.start hD)
  have UG := Aside0.mk hD.ug
  obtain ⟨N, hN⟩ : ∃ n, n = s.P.length := ⟨_, rfl⟩
  have HN := Aside0.mk hN
  have NL := Aside0.mk (show N ≤ 1000000 from hN ▸ hPl)
  obtain ⟨_, _, z2, _, _, _⟩ := dk_cells h1
  rw [ho] at z2
  clear hD ho hX hn hPl h1 hN
  go_enter Try.func69, Try.ntmps69
  go_wp2_with fail
  clear z2
  go_loopg [5] N (fun q v w' => ∃ (k : Nat), v = .int .i64 (k : Int) ∧ Aside0 (k + q = N) ∧ Aside0 (InCrash w w' g U s ((s.P.zip ps).take k)))
  case atStart => exact ⟨0, rfl, ⟨Nat.zero_add _⟩, ⟨C0.out⟩⟩
  case round =>
    clear C0
    obtain ⟨k, rfl, HJ, CC⟩ := hrel
    have hh := CC.out.head.trans H1.out
    obtain ⟨_, y1, _, _, _, _⟩ := dk_cells hh
    rw [← HN.out] at y1
    clear hh
    by_cases hlt : k < N ∧ k < nx
    case pos =>
      obtain ⟨hl1, hl2⟩ := hlt
      have hgd : decide ((k : Int) < (N : Int)) = true := (di_t hl1).1
      have hgd2 : decide (k < N) = true := (di_t hl1).2
      have hge : decide ((k : Int) < (nx : Int)) = true := (di_t hl2).1
      have hge2 : decide (k < nx) = true := (di_t hl2).2
      have HN1 := Aside0.mk (st_n HJ.out hl1).1
      have HM := Aside0.mk (st_n HJ.out hl1).2
      have HV := Aside0.mk (stepv hl1 (big_n NL.out))
      have hkP : k < s.P.length := HN.out ▸ hl1
      have hkX : k < ps.length := NX.out.symm ▸ hl2
      obtain ⟨ad, Ab, cb, I, hAP, p1, p2, p3, p4, p5⟩ := CC.out.next H1.out PEN.out hkP
      rw [← HN.out] at p1
      obtain ⟨ax, hAx, p6⟩ : ∃ ax, Ax = some ax ∧ wr.cell? (ax.add k) = some (.int .u8 ps[k]) := by
        obtain ⟨⟨U', q1, q2⟩, q3, q4⟩ := CC.out
        exact XX.out wr U' _ (fallB_len _ _) q1 q3 q4 k hkX
      obtain ⟨pk, hpk⟩ : ∃ x, x = ps[k] := ⟨_, rfl⟩
      rw [← hpk] at p6
      have ZN := Aside0.mk (show (s.P.zip ps).take k ++ [(((I : Int), pB s.P k), pk)] = (s.P.zip ps).take (k + 1) from by rw [hpk, ← p4]; exact zip_next hkP hkX)
      have RC := Aside0.mk (p5 wr.drew pk (below_drew (Below.refl _ _)))
      subst hAP hAx
      clear hpk p4 p5 hkP hkX y1
      go_wp2_with fail
      go_region_with (go_at_call 91; refine RC.out.mono ?_; rintro e wn ⟨rfl, hC⟩; have CN := Aside0.mk hC; clear hC p1 p2 p3 p6)
      all_goals
        rw [ZN.out] at CN
        go_wp2_with fail
        go_roundg (gk - 1)
        case measure => exact HM.out
        case rel => exact ⟨k + 1, by first | exact HV.out | rfl, HN1, CN⟩
    have CE := Aside0.mk (show InCrash w wr g U s (s.P.zip ps) from by have := CC.out; rwa [zip_done (by rw [← HN.out, NX.out]; exact hlt)] at this)
    have hh := CC.out.head.trans H1.out
    obtain ⟨x0, x1, x2, x3, x4, x5⟩ := dk_cells hh
    have f1 := blk_frozen hh 1
    have f2 := blk_frozen hh 2
    have f4 := blk_frozen hh 4
    have f5 := blk_frozen hh 5
    rw [← HN.out] at x1
    clear hh x0 x3 CC
    by_cases hl1 : k < N
    · have hgd : decide ((k : Int) < (N : Int)) = true := (di_t hl1).1
      have hgd2 : decide (k < N) = true := (di_t hl1).2
      obtain ⟨hge, hge2⟩ := nlt_f (k := k) (n := nx) (fun h => hlt ⟨hl1, h⟩)
      clear hlt
      go_wp2_with fail
      go_ret
      obtain ⟨r1, r2⟩ := CE.out.done H1.out rfl
      exact ⟨rfl, r1, r2⟩
    · obtain ⟨hgd, hgd2⟩ := nlt_f hl1
      clear hlt
      go_wp2_with fail
      go_ret
      obtain ⟨r1, r2⟩ := CE.out.done H1.out rfl
      exact ⟨rfl, r1, r2⟩
end Go.Proofs.Ythnadkdfgckijaa.Pure
namespace Go.Proofs.Ythnadkdfgckijaa.Pure
open Go.RowKit Go.Proofs.Ythnadkdfgckijaa Go.Proofs.Ythnadkdfgckijaa.PAll Go.Proofs.Ythnadkdfgckijaa.Mem Go.Proofs.YthnadkdfgckijaaW.PrintWords Go.Proofs.YthnadkdfgckijaaW.PrintLast Go.Proofs.YthnadkdfgckijaaW.PrintMore
set_option linter.unusedVariables false
set_option linter.unusedSimpArgs false
set_option linter.unusedSectionVars false

/-- What goes tells, and the state behind it, ahead of a crash. -/
def goesR (s : DS) : Bool × DS :=
  if s.armed = 0 then (false, { s with ops := wrap64 (s.ops + 1) })
  else (decide (s.armed = 1), { s with ops := wrap64 (s.ops + 1), armed := s.armed - 1 })
theorem goesR_S {s : DS} (h0 : 0 ≤ s.armed) (h1 : s.armed ≤ 9223372036854775807) : goesS s = if (goesR s).1 = true then (true, fallsS (goesR s).2 s.picks) else (false, (goesR s).2) := by
  unfold goesS goesR
  by_cases h : s.armed = 0
  · rw [if_pos h, if_pos h, if_neg (fun q => by cases q)]
  · rw [if_neg h, if_neg h, w64id (by omega) (by omega)]
    by_cases h2 : s.armed = 1
    · rw [if_neg (by omega), if_pos (by simpa using h2)]
    · rw [if_pos (by omega), if_neg (by simpa using h2)]
set_option maxRecDepth 100000 in
set_option maxHeartbeats 4000000 in
theorem r_goes {w : World} {g : Nat} {U : Nat → Prop} {s : DS} (hD : DR w g U s) (h0 : 0 ≤ s.armed) (h1 : s.armed ≤ 9223372036854775807) : Calls Try.prog 90 #[.pointer (some ⟨g, 0, none⟩)] w fun e w' => e = .returned (.bool (goesR s).1) ∧ Fr (· = g) w w' ∧ DR w' g U (goesR s).2 := by
  obtain ⟨A, AP, Ak, c, cP, ck, hh, _⟩ := hD.hd
  have HH := Aside0.mk hh
  have D0 := Aside0.mk hD
  obtain ⟨z0, z1, z2, z3, z4, z5⟩ := dk_cells hh
  have f3 := blk_frozen hh 3
  have b3 := blk_set hh 3 (.int .i64 (wrap64 (s.ops + 1)))
  have B3 := Aside0.mk b3
  obtain ⟨y0, y1, y2, y3, y4, y5⟩ := six_cells (show (w.setCell ⟨g, 3, none⟩ (.int .i64 (wrap64 (s.ops + 1)))).heap[g]? = some (.cells #[.slice A s.B.length c, .slice AP s.P.length cP, .bool s.off, .int .i64 (wrap64 (s.ops + 1)), .int .i64 s.armed, .slice Ak s.picks.length ck] 112 (0, 0)) from b3)
  have f4 := blk_frozen b3 4
  have hF3 : Fr (· = g) w (w.setCell ⟨g, 3, none⟩ (.int .i64 (wrap64 (s.ops + 1)))) := (Fr.refl (fun x => x = g) _).set (p := ⟨g, 3, none⟩) rfl _
  have F3 := Aside0.mk hF3
  obtain ⟨ar, har⟩ : ∃ a, a = s.armed := ⟨_, rfl⟩
  obtain ⟨op, hop⟩ : ∃ a, a = s.ops := ⟨_, rfl⟩
  have HAR := Aside0.mk har
  have HOP := Aside0.mk hop
  rw [← har] at z4 y4 h0 h1
  rw [← hop] at z3 y0 y1 y2 y3 y4 y5 f4 B3 F3
  by_cases hz : ar = 0
  · have e1 : (ar == 0) = true := by simpa using hz
    have GR := Aside0.mk (show goesR s = (false, { s with ops := wrap64 (s.ops + 1) }) from by unfold goesR; rw [if_pos (har ▸ hz)])
    clear hD hh b3 hF3 z0 z1 z2 z4 z5 y0 y1 y2 y3 y5 hz h0 h1 har hop
    go_enter Try.func90, Try.ntmps90
    go_wp2_with fail
    go_ret
    refine ⟨by rw [GR.out]; rfl, F3.out, ?_⟩
    rw [GR.out]
    have := (D0.out.head F3.out (off := s.off) (ops := wrap64 (s.ops + 1)) (armed := s.armed) HH.out).1 (by rw [← HOP.out]; exact B3.out)
    exact this
  · have e1 : (ar == 0) = false := by simpa using hz
    have GR := Aside0.mk (show goesR s = (decide (ar = 1), { s with ops := wrap64 (s.ops + 1), armed := ar - 1 }) from by unfold goesR; rw [if_neg (har ▸ hz), har])
    have hw : wrap64 (ar - 1) = ar - 1 := w64id (by omega) (by omega)
    obtain ⟨a1, ha1⟩ : ∃ a, a = ar - 1 := ⟨_, rfl⟩
    have HA1 := Aside0.mk ha1
    rw [← ha1] at hw
    have hw2 : IntKind.i64.wrap (ar - 1) = a1 := by rw [i64_w, ← ha1]; exact hw
    have b4 := blk_set B3.out 4 (.int .i64 a1)
    have B4 := Aside0.mk b4
    obtain ⟨x0, x1, x2, x3, x4, x5⟩ := six_cells (show ((w.setCell ⟨g, 3, none⟩ (.int .i64 (wrap64 (op + 1)))).setCell ⟨g, 4, none⟩ (.int .i64 a1)).heap[g]? = some (.cells #[.slice A s.B.length c, .slice AP s.P.length cP, .bool s.off, .int .i64 (wrap64 (op + 1)), .int .i64 a1, .slice Ak s.picks.length ck] 112 (0, 0)) from b4)
    have e2 : (a1 == 0) = decide (ar = 1) := by
      rw [ha1]
      by_cases h : ar = 1
      · rw [h]; rfl
      · rw [decide_eq_false h]
        have : ar - 1 ≠ 0 := by omega
        simpa using this
    obtain ⟨b, hb⟩ : ∃ b, b = decide (ar = 1) := ⟨_, rfl⟩
    rw [← hb] at e2 GR
    clear hD hh b3 hF3 z0 z1 z2 z5 y0 y1 y2 y3 y5 hz h0 h1 har hop b4 x0 x1 x2 x3 x5 ha1 hb z4
    go_enter Try.func90, Try.ntmps90
    go_wp2_with fail
    go_ret
    have FF := F3.out.set (p := ⟨g, 4, none⟩) rfl (.int .i64 a1)
    refine ⟨by rw [GR.out]; rfl, FF, ?_⟩
    rw [GR.out]
    have := (D0.out.head FF (off := s.off) (ops := wrap64 (s.ops + 1)) (armed := ar - 1) HH.out).1 (by rw [← HOP.out, ← HA1.out]; exact B4.out)
    exact this
/-- What reaches the medium by a flush. -/
def all15 (P : List (Int × List Int)) : List ((Int × List Int) × Int) := P.map (fun x => (x, (15 : Int)))
theorem fall15 : ∀ (P : List (Int × List Int)) (B : List (List Int)), fallB B (all15 P) = flushB B P
  | [], _ => rfl
  | x :: P, B => fall15 P (reachB B x 15)
theorem all15_next {P : List (Int × List Int)} {k : Nat} (h : k < P.length) : all15 (P.take k) ++ [(P[k], 15)] = all15 (P.take (k + 1)) := by
  unfold all15
  rw [List.take_succ_eq_append_getElem h, List.map_append]
  rfl
theorem InCrash.flushed {w w' : World} {g : Nat} {U : Nat → Prop} {s : DS} (h : InCrash w w' g U s (all15 s.P)) {A AP Ak : Option Addr} {c cP ck : Nat} (h0 : w.heap[g]? = some (hdR A AP Ak s.B.length c s.P.length cP s.off s.ops s.armed s.picks.length ck)) {w2 : World} (hw2 : w2 = w'.setCell ⟨g, 1, none⟩ (.slice none 0 0)) :
    Fr U w w2 ∧ ∃ U', DR w2 g U' { s with B := flushB s.B s.P, P := [] } ∧ ∀ q, U' q → U q ∨ w.heap.size ≤ q := by
  obtain ⟨⟨U', hD, hU⟩, he, hf⟩ := h
  rw [fall15] at hD
  have e0 := he.trans h0
  have b1 := blk_set e0 1 (.slice none 0 0)
  rw [← hw2] at b1
  have hfg : Fr (· = g) w' w2 := by
    rw [hw2]
    exact (Fr.refl (fun x => x = g) _).set (p := ⟨g, 1, none⟩) rfl _
  have hBl : (flushB s.B s.P).length = s.B.length := flushB_len s.B _
  refine ⟨hf.trans hfg (fun q e => hU q (e ▸ hD.ug)), U', ?_, hU⟩
  have := (hD.head hfg (off := s.off) (ops := s.ops) (armed := s.armed) (A := A) (AP := AP) (Ak := Ak) (c := c) (cP := cP) (ck := ck) (by rw [show ({ s with B := flushB s.B s.P } : DS).B.length = s.B.length from hBl]; exact e0)).2.1 (by rw [show ({ s with B := flushB s.B s.P } : DS).B.length = s.B.length from hBl]; exact b1)
  exact this
set_option maxRecDepth 100000 in
theorem r_flush_off {w : World} {g : Nat} {U : Nat → Prop} {s : DS} (hD : DR w g U s) (ho : s.off = true) : Calls Try.prog 67 #[.pointer (some ⟨g, 0, none⟩)] w fun e w' => e = .returned (.int .i64 5) ∧ Below w.heap.size w w' := by
  obtain ⟨A, AP, Ak, c, cP, ck, h1, _⟩ := hD.hd
  obtain ⟨_, _, z2, _, _, _⟩ := dk_cells h1
  rw [ho] at z2
  clear hD h1 ho
  go_enter Try.func67, Try.ntmps67
  go_wp2_with fail
  go_ret
  exact ⟨rfl, Below.refl _ _⟩
/-- What a call does to the document's disk. -/
def DoesR (w w' : World) (g : Nat) (U : Nat → Prop) (s : DS) : Prop := Fr U w w' ∧ ∃ U', DR w' g U' s ∧ ∀ q, U' q → U q ∨ w.heap.size ≤ q
theorem DoesR.behind {w w1 w2 : World} {g : Nat} {U : Nat → Prop} {s : DS} (hf : Fr (· = g) w w1) (ug : U g) (h : DoesR w1 w2 g U s) : DoesR w w2 g U s := by
  obtain ⟨f2, U', h1, h2⟩ := h
  exact ⟨(hf.mono (fun q e => e ▸ ug)).then_ f2, U', h1, fun q hq => (h2 q hq).imp id (fun z => Nat.le_trans hf.size z)⟩
set_option maxRecDepth 100000 in
set_option maxHeartbeats 16000000 in
theorem r_flush {w : World} {g : Nat} {U : Nat → Prop} {s : DS} (hD : DR w g U s) (h0 : 0 ≤ s.armed) (h1 : s.armed ≤ 9223372036854775807) (hPl : s.P.length ≤ 1000000) : Calls Try.prog 67 #[.pointer (some ⟨g, 0, none⟩)] w fun e w' => e = .returned (.int .i64 (flushS s).1) ∧ DoesR w w' g U (flushS s).2 := by
  cases ho : s.off with
  | true =>
    have e : flushS s = (5, s) := by unfold flushS; rw [if_pos ho]
    rw [e]
    refine (r_flush_off hD ho).mono ?_
    rintro ex w' ⟨rfl, hb⟩
    exact ⟨rfl, Fr.of_below hb, U, hD.below hb, fun q hq => .inl hq⟩
  | false =>
    have GS := Aside0.mk (goesR_S h0 h1)
    have FS := Aside0.mk (show flushS s = if (goesS s).1 = true then (5, (goesS s).2) else (0, { (goesS s).2 with B := flushB (goesS s).2.B (goesS s).2.P, P := [] }) from by unfold flushS; rw [if_neg (by rw [ho]; decide)])
    obtain ⟨A0, AP0, Ak0, c0, cP0, ck0, hh0, _⟩ := hD.hd
    obtain ⟨_, _, z2, _, _, _⟩ := dk_cells hh0
    rw [ho] at z2
    obtain ⟨b, s1, hgr⟩ : ∃ b s1, goesR s = (b, s1) := ⟨_, _, rfl⟩
    have S1 := Aside0.mk (show s1.off = false ∧ s1.picks = s.picks ∧ s1.P = s.P from by
      unfold goesR at hgr
      split at hgr <;> (injection hgr with _ hgr; rw [← hgr]; exact ⟨ho, rfl, rfl⟩))
    have RG := Aside0.mk (r_goes hD h0 h1)
    rw [hgr] at RG
    have GR := Aside0.mk hgr
    have UG := Aside0.mk hD.ug
    have PL := Aside0.mk hPl
    clear hD h0 h1 hPl hh0 hgr
    go_enter Try.func67, Try.ntmps67
    go_wp2_with fail
    refine RG.out.mono ?_
    rintro e w1 ⟨rfl, hf, hD1⟩
    have D1 := Aside0.mk hD1
    have F1 := Aside0.mk hf
    obtain ⟨A, AP, Ak, c, cP, ck, hh, _⟩ := hD1.hd
    have HH := Aside0.mk hh
    clear hf hD1 RG z2
    cases b with
    | true =>
      obtain ⟨_, _, _, _, _, z5⟩ := dk_cells hh
      clear hh
      go_wp2_with fail
      refine (r_crash D1.out S1.out.1 rfl (picks_own HH.out) (by rw [S1.out.2.2]; exact PL.out)).mono ?_
      rintro e w2 ⟨rfl, hf, U2, hD2, hU2⟩
      have DD := Aside0.mk (show DoesR w1 w2 g U (fallsS s1 s1.picks) from ⟨hf, U2, hD2, hU2⟩)
      clear hf hD2 hU2 z5
      go_wp2_with fail
      go_ret
      have eq : flushS s = (5, fallsS s1 s1.picks) := by
        rw [FS.out, GS.out, GR.out, S1.out.2.1]
        rfl
      rw [eq]
      exact ⟨rfl, DoesR.behind F1.out UG.out DD.out⟩
    | false =>
      obtain ⟨N, hN⟩ : ∃ n, n = s1.P.length := ⟨_, rfl⟩
      have HN := Aside0.mk hN
      have NL := Aside0.mk (show N ≤ 1000000 from by rw [hN, S1.out.2.2]; exact PL.out)
      have C0 := Aside0.mk (InCrash.start D1.out)
      have PEN := Aside0.mk D1.out.pen
      clear hh hN
      go_wp2_with fail
      go_loopg [3] N (fun q v w' => ∃ (k : Nat), v = .int .i64 (k : Int) ∧ Aside0 (k + q = N) ∧ Aside0 (InCrash w1 w' g U s1 (all15 (s1.P.take k))))
      case atStart => exact ⟨0, rfl, ⟨Nat.zero_add _⟩, ⟨C0.out⟩⟩
      case round =>
        clear C0
        obtain ⟨k, rfl, HJ, CC⟩ := hrel
        have hh := CC.out.head.trans HH.out
        obtain ⟨_, y1, _, _, _, _⟩ := dk_cells hh
        have YH := Aside0.mk hh
        rw [← HN.out] at y1
        clear hh
        by_cases hlt : k < N
        case pos =>
          have hgd : decide ((k : Int) < (N : Int)) = true := (di_t hlt).1
          have hgd2 : decide (k < N) = true := (di_t hlt).2
          have HN1 := Aside0.mk (st_n HJ.out hlt).1
          have HM := Aside0.mk (st_n HJ.out hlt).2
          have HV := Aside0.mk (stepv hlt (big_n NL.out))
          have hkP : k < s1.P.length := HN.out ▸ hlt
          obtain ⟨ad, Ab, cb, I, hAP, p1, p2, p3, p4, p5⟩ := CC.out.next HH.out PEN.out hkP
          rw [← HN.out] at p1
          have ZN := Aside0.mk (show all15 (s1.P.take k) ++ [(((I : Int), pB s1.P k), 15)] = all15 (s1.P.take (k + 1)) from by rw [← p4]; exact all15_next hkP)
          have RC := Aside0.mk (p5 wr 15 (Below.refl _ _))
          subst hAP
          clear p4 p5 hkP y1
          go_wp2_with fail
          refine RC.out.mono ?_
          rintro e wn ⟨rfl, hC⟩
          have CN := Aside0.mk hC
          rw [ZN.out] at CN
          clear hC p1 p2 p3
          go_wp2_with fail
          go_roundg (gk - 1)
          case measure => exact HM.out
          case rel => exact ⟨k + 1, by first | exact HV.out | rfl, HN1, CN⟩
        have hke : k = N := en_k HJ.out hlt
        obtain ⟨hgd, hgd2⟩ := nlt_f hlt
        have CE := Aside0.mk (show InCrash w1 wr g U s1 (all15 s1.P) from by have := CC.out; rwa [List.take_of_length_le (by rw [hke, HN.out]; exact Nat.le_refl _)] at this)
        have f1 := blk_frozen YH.out 1
        clear hlt hke CC
        go_wp2_with fail
        go_ret
        have eq : flushS s = (0, { s1 with B := flushB s1.B s1.P, P := [] }) := by
          rw [FS.out, GS.out, GR.out]
          rfl
        rw [eq]
        exact ⟨rfl, DoesR.behind F1.out UG.out (CE.out.flushed HH.out rfl)⟩
end Go.Proofs.Ythnadkdfgckijaa.Pure
