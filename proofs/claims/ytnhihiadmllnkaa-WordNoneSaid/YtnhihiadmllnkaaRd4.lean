/- Both readers' contracts in plain words. -/
import Derived.Test.YtnhihiadmllnkaaRd3
namespace Go.Proofs.Ytnhihiadmllnkaa.Pure
open Go.RowKit Go.Proofs.Ytnhihiadmllnkaa Go.Proofs.Ytnhihiadmllnkaa.PAll Go.Proofs.Ytnhihiadmllnkaa.Mem Go.Proofs.YtnhihiadmllnkaaW.PrintWords Go.Proofs.YtnhihiadmllnkaaW.PrintLast Go.Proofs.YtnhihiadmllnkaaW.PrintMore
set_option linter.unusedVariables false
set_option linter.unusedSimpArgs false

/-- The document's reader at block g. -/
structure WS (w : World) (g : Nat) (U : Nat → Prop) (L : List Int) (e : Int) : Prop where
  ne : ∀ k, U k → k ≠ g
  out : ∃ (B : Option Addr) (c : Nat), w.heap[g]? = some (.cells (rrCs B L.length c e) 60 (0, 0)) ∧ Kd.F (Kd.int .u8) w U B L.length L ∧ L.length ≤ c ∧ Bytes L ∧ L.length ≤ 140737488351232
theorem WS.fr {w w' : World} {g : Nat} {U F : Nat → Prop} {L : List Int} {e : Int} (h : WS w g U L e) (hf : Fr F w w') (hg : ¬ F g) (hU : ∀ k, U k → ¬ F k) : WS w' g U L e := by
  obtain ⟨ne, B, c, h1, h2, h3⟩ := h
  exact ⟨ne, B, c, fr_blk hf h1 hg, F_fr h2 hf hU, h3⟩
theorem WS.below {w w' : World} {g : Nat} {U : Nat → Prop} {L : List Int} {e : Int} (h : WS w g U L e) (hb : Below w.heap.size w w') : WS w' g U L e := h.fr (F := fun _ => False) (Fr.of_below hb) (fun h => h) (fun _ _ h => h)
theorem WS.lt {w : World} {g : Nat} {U : Nat → Prop} {L : List Int} {e : Int} (h : WS w g U L e) : g < w.heap.size := by
  obtain ⟨ne, B, c, h1, h2⟩ := h
  exact blk_lt h1
section
variable {w : World} {g : Nat} {U : Nat → Prop} {L : List Int} {e : Int}
theorem rs_num (h : RS w g U L e) (n : Int) : Calls Try.prog 30 #[.pointer (some ⟨g, 0, none⟩), .int .i64 n] w fun ex w' => ex = .returned (.int .u64 (nmR L e n).1) ∧ RS w' g U (nmR L e n).2.1 (nmR L e n).2.2 ∧ Fr (· = g) w w' := by
  obtain ⟨ne, B, c, p, l, h1, h2, h3, h4, rfl, h5, h6⟩ := h
  unfold nmR
  by_cases he : e = 0
  · rw [if_neg (by simpa using he)]
    by_cases hn : n < 1 ∨ n > 8
    · rw [if_pos hn]
      refine (num2 h1 ne h2 h3 h6 h4 h5 n he hn).mono ?_
      rintro ex w' ⟨rfl, hG, hf⟩
      exact ⟨rfl, ⟨ne, B, c, p, l, hG, F_fr h2 hf ne, h3, h4, rfl, h5, h6⟩, hf⟩
    · rw [if_neg hn]
      by_cases hs : n > ((l.drop p).length : Int)
      · rw [if_pos hs]
        rw [List.length_drop] at hs
        refine (num3 h1 ne h2 h3 h6 h4 h5 n he hn hs).mono ?_
        rintro ex w' ⟨rfl, hG, hf⟩
        exact ⟨rfl, ⟨ne, B, c, p, l, hG, F_fr h2 hf ne, h3, h4, rfl, h5, h6⟩, hf⟩
      · rw [if_neg hs]
        rw [List.length_drop] at hs
        obtain ⟨N, hN⟩ : ∃ N, N = n.toNat := ⟨_, rfl⟩
        have hnN : n = (N : Int) := by omega
        rw [← hN]
        subst hnN
        refine (num4 h1 ne h2 h3 h6 h4 h5 N he (by omega) (by omega)).mono ?_
        rintro ex w' ⟨rfl, hG, hf⟩
        exact ⟨by rw [getL_drop], ⟨ne, B, c, p + N, l, hG, F_fr h2 hf ne, h3, by omega, by rw [List.drop_drop], h5, h6⟩, hf⟩
  · rw [if_pos he]
    refine (num1 h1 ne h2 h3 h6 h4 h5 n he).mono ?_
    rintro ex w' ⟨rfl, hG, hf⟩
    exact ⟨rfl, ⟨ne, B, c, p, l, hG, F_fr h2 hf ne, h3, h4, rfl, h5, h6⟩, hf⟩
theorem F_nil0 (w : World) (U : Nat → Prop) : Kd.F (Kd.int .u8) w U none 0 [] := Kd.F_nil _ _ _
theorem rs_byt (h : RS w g U L e) (n : Int) : Calls Try.prog 32 #[.pointer (some ⟨g, 0, none⟩), .int .i64 n] w fun ex w' => (∃ A d, ex = .returned (.slice A (byR L e n).1.length d) ∧ (byR L e n).1.length ≤ d ∧ Kd.F (Kd.int .u8) w' (fun k => w.heap.size ≤ k) A (byR L e n).1.length (byR L e n).1) ∧ RS w' g U (byR L e n).2.1 (byR L e n).2.2 ∧ Fr (· = g) w w' := by
  obtain ⟨ne, B, c, p, l, h1, h2, h3, h4, rfl, h5, h6⟩ := h
  unfold byR
  by_cases he : e = 0
  · rw [if_neg (by simpa using he)]
    by_cases hn : n < 0
    · rw [if_pos hn]
      refine (byt2 h1 ne h2 h3 h6 h4 h5 n he hn).mono ?_
      rintro ex w' ⟨rfl, hG, hf⟩
      exact ⟨⟨none, 0, rfl, Nat.le_refl _, F_nil0 _ _⟩, ⟨ne, B, c, p, l, hG, F_fr h2 hf ne, h3, h4, rfl, h5, h6⟩, hf⟩
    · rw [if_neg hn]
      by_cases hs : n > ((l.drop p).length : Int)
      · rw [if_pos hs]
        rw [List.length_drop] at hs
        refine (byt3 h1 ne h2 h3 h6 h4 h5 n he hn hs).mono ?_
        rintro ex w' ⟨rfl, hG, hf⟩
        exact ⟨⟨none, 0, rfl, Nat.le_refl _, F_nil0 _ _⟩, ⟨ne, B, c, p, l, hG, F_fr h2 hf ne, h3, h4, rfl, h5, h6⟩, hf⟩
      · rw [if_neg hs]
        rw [List.length_drop] at hs
        obtain ⟨N, hN⟩ : ∃ N, N = n.toNat := ⟨_, rfl⟩
        have hnN : n = (N : Int) := by omega
        rw [← hN]
        subst hnN
        have hl := (part_len (l := l) (p := p) (n := N) (by omega)).1
        refine (byt4 h1 ne h2 h3 h6 h4 h5 N he (by omega)).mono ?_
        rintro ex w' ⟨⟨A, d, rfl, hd, hA⟩, hG, hf⟩
        refine ⟨⟨A, d, ?_, ?_, ?_⟩, ⟨ne, B, c, p + N, l, hG, F_fr h2 hf ne, h3, by omega, by rw [List.drop_drop], h5, h6⟩, hf⟩
        · show _ = Ending.returned (Value.slice A ((l.drop p).take N).length d)
          rw [hl]
        · show ((l.drop p).take N).length ≤ d
          rw [hl]
          exact hd
        · show Kd.F (Kd.int .u8) w' _ A ((l.drop p).take N).length ((l.drop p).take N)
          rw [hl]
          exact hA
  · rw [if_pos he]
    refine (byt1 h1 ne h2 h3 h6 h4 h5 n he).mono ?_
    rintro ex w' ⟨rfl, hG, hf⟩
    exact ⟨⟨none, 0, rfl, Nat.le_refl _, F_nil0 _ _⟩, ⟨ne, B, c, p, l, hG, F_fr h2 hf ne, h3, h4, rfl, h5, h6⟩, hf⟩
theorem rs_uva (h : RS w g U L e) : Calls Try.prog 34 #[.pointer (some ⟨g, 0, none⟩)] w fun ex w' => ex = .returned (.int .u64 (uvR L e).1) ∧ RS w' g U (uvR L e).2.1 (uvR L e).2.2 ∧ Fr (· = g) w w' := by
  obtain ⟨ne, B, c, p, l, h1, h2, h3, h4, rfl, h5, h6⟩ := h
  unfold uvR
  by_cases he : e = 0
  · rw [if_neg (by simpa using he)]
    obtain ⟨r, n, m, ht⟩ : ∃ r n m, tk 0 0 (l.drop p) = (r, n, m) := ⟨_, _, _, rfl⟩
    have hn : n ≤ l.length - p := by have := tk_len (l.drop p); rw [ht, List.length_drop] at this; exact this
    rw [ht]
    refine (uva2 h1 ne h2 h3 h6 h4 h5 he r n m ht).mono ?_
    rintro ex w' ⟨rfl, hG, hf⟩
    exact ⟨rfl, ⟨ne, B, c, p + n, l, hG, F_fr h2 hf ne, h3, by omega, by rw [List.drop_drop], h5, h6⟩, hf⟩
  · rw [if_pos he]
    refine (uva1 h1 ne h2 h3 h6 h4 h5 he).mono ?_
    rintro ex w' ⟨rfl, hG, hf⟩
    exact ⟨rfl, ⟨ne, B, c, p, l, hG, F_fr h2 hf ne, h3, h4, rfl, h5, h6⟩, hf⟩
theorem rs_err (h : RS w g U L e) : Calls Try.prog 36 #[.pointer (some ⟨g, 0, none⟩)] w fun ex w' => ex = .returned (.int .i64 e) ∧ Below w.heap.size w w' := by
  obtain ⟨ne, B, c, p, l, h1, h2, h3, h4, rfl, h5, h6⟩ := h
  exact err_b h1 ne h2 h3 h6 h4 h5
theorem rs_rest (h : RS w g U L e) : Calls Try.prog 37 #[.pointer (some ⟨g, 0, none⟩)] w fun ex w' => ex = .returned (.int .i64 (L.length : Int)) ∧ Below w.heap.size w w' := by
  obtain ⟨ne, B, c, p, l, h1, h2, h3, h4, rfl, h5, h6⟩ := h
  rw [List.length_drop]
  exact rest_b h1 ne h2 h3 h6 h4 h5
theorem rs_end (h : RS w g U L e) : Calls Try.prog 38 #[.pointer (some ⟨g, 0, none⟩)] w fun ex w' => ex = .returned (.int .i64 (enR L e)) ∧ Below w.heap.size w w' := by
  obtain ⟨ne, B, c, p, l, h1, h2, h3, h4, rfl, h5, h6⟩ := h
  unfold enR
  rw [List.length_drop]
  exact end_b h1 ne h2 h3 h6 h4 h5
theorem F_cutN {w : World} {U : Nat → Prop} {A : Option Addr} {c m n : Nat} {l : List Int} (h : Kd.F (Kd.int .u8) w U A l.length l) (hm : n ≤ l.length) (hc : l.length ≤ c) : Kd.F (Kd.int .u8) w U (cutP A c n) (l.drop n).length (l.drop n) := F_cutP h hm hc
theorem bytes_drop {l : List Int} (h : Bytes l) (n : Nat) : Bytes (l.drop n) := fun x hx => h x (List.mem_of_mem_drop hx)
theorem ws_cut (ne : ∀ k, U k → k ≠ g) {B : Option Addr} {c n : Nat} {w' : World} (hG : w'.heap[g]? = some (.cells (rrCs (cutP B c n) (L.length - n) (c - n) 0) 60 (0, 0))) (h2 : Kd.F (Kd.int .u8) w U B L.length L) (hf : Fr (· = g) w w') (hn : n ≤ L.length) (h3 : L.length ≤ c) (h5 : Bytes L) (h6 : L.length ≤ 140737488351232) : WS w' g U (L.drop n) 0 := by
  refine ⟨ne, cutP B c n, c - n, ?_, F_cutP (F_fr h2 hf ne) hn h3, ?_, bytes_drop h5 n, ?_⟩
  · rw [List.length_drop]
    exact hG
  · rw [List.length_drop]
    omega
  · rw [List.length_drop]
    omega
theorem ws_num (h : WS w g U L e) (n : Int) : Calls Try.prog 31 #[.pointer (some ⟨g, 0, none⟩), .int .i64 n] w fun ex w' => ex = .returned (.int .u64 (nmR L e n).1) ∧ WS w' g U (nmR L e n).2.1 (nmR L e n).2.2 ∧ Fr (· = g) w w' := by
  obtain ⟨ne, B, c, h1, h2, h3, h5, h6⟩ := h
  unfold nmR
  by_cases he : e = 0
  · rw [if_neg (by simpa using he)]
    by_cases hn : n < 1 ∨ n > 8
    · rw [if_pos hn]
      refine (rnum2 h1 ne h2 rfl h3 h6 h5 n he hn).mono ?_
      rintro ex w' ⟨rfl, hG, hf⟩
      exact ⟨rfl, ⟨ne, B, c, hG, F_fr h2 hf ne, h3, h5, h6⟩, hf⟩
    · rw [if_neg hn]
      by_cases hs : n > (L.length : Int)
      · rw [if_pos hs]
        refine (rnum3 h1 ne h2 rfl h3 h6 h5 n he hn hs).mono ?_
        rintro ex w' ⟨rfl, hG, hf⟩
        exact ⟨rfl, ⟨ne, B, c, hG, F_fr h2 hf ne, h3, h5, h6⟩, hf⟩
      · rw [if_neg hs]
        obtain ⟨N, hN⟩ : ∃ N, N = n.toNat := ⟨_, rfl⟩
        have hnN : n = (N : Int) := by omega
        rw [← hN]
        subst hnN
        refine (rnum4 h1 ne h2 rfl h3 h6 h5 N he (by omega) (by omega)).mono ?_
        rintro ex w' ⟨rfl, hG, hf⟩
        exact ⟨rfl, ws_cut ne hG h2 hf (by omega) h3 h5 h6, hf⟩
  · rw [if_pos he]
    refine (rnum1 h1 ne h2 rfl h3 h6 h5 n he).mono ?_
    rintro ex w' ⟨rfl, hG, hf⟩
    exact ⟨rfl, ⟨ne, B, c, hG, F_fr h2 hf ne, h3, h5, h6⟩, hf⟩
theorem ws_byt (h : WS w g U L e) (n : Int) : Calls Try.prog 33 #[.pointer (some ⟨g, 0, none⟩), .int .i64 n] w fun ex w' => (∃ A d, ex = .returned (.slice A (byR L e n).1.length d) ∧ (byR L e n).1.length ≤ d ∧ Kd.F (Kd.int .u8) w' (fun k => w.heap.size ≤ k) A (byR L e n).1.length (byR L e n).1) ∧ WS w' g U (byR L e n).2.1 (byR L e n).2.2 ∧ Fr (· = g) w w' := by
  obtain ⟨ne, B, c, h1, h2, h3, h5, h6⟩ := h
  unfold byR
  by_cases he : e = 0
  · rw [if_neg (by simpa using he)]
    by_cases hn : n < 0
    · rw [if_pos hn]
      refine (rbyt2 h1 ne h2 rfl h3 h6 h5 n he hn).mono ?_
      rintro ex w' ⟨rfl, hG, hf⟩
      exact ⟨⟨none, 0, rfl, Nat.le_refl _, F_nil0 _ _⟩, ⟨ne, B, c, hG, F_fr h2 hf ne, h3, h5, h6⟩, hf⟩
    · rw [if_neg hn]
      by_cases hs : n > (L.length : Int)
      · rw [if_pos hs]
        refine (rbyt3 h1 ne h2 rfl h3 h6 h5 n he hn hs).mono ?_
        rintro ex w' ⟨rfl, hG, hf⟩
        exact ⟨⟨none, 0, rfl, Nat.le_refl _, F_nil0 _ _⟩, ⟨ne, B, c, hG, F_fr h2 hf ne, h3, h5, h6⟩, hf⟩
      · rw [if_neg hs]
        obtain ⟨N, hN⟩ : ∃ N, N = n.toNat := ⟨_, rfl⟩
        have hnN : n = (N : Int) := by omega
        rw [← hN]
        subst hnN
        have hl : (L.take N).length = N := by rw [List.length_take]; omega
        refine (rbyt4 h1 ne h2 rfl h3 h6 h5 N he (by omega)).mono ?_
        rintro ex w' ⟨⟨A, d, rfl, hd, hA⟩, hG, hf⟩
        refine ⟨⟨A, d, ?_, ?_, ?_⟩, ws_cut ne hG h2 hf (by omega) h3 h5 h6, hf⟩
        · show _ = Ending.returned (Value.slice A (L.take N).length d)
          rw [hl]
        · show (L.take N).length ≤ d
          rw [hl]
          exact hd
        · show Kd.F (Kd.int .u8) w' _ A (L.take N).length (L.take N)
          rw [hl]
          exact hA
  · rw [if_pos he]
    refine (rbyt1 h1 ne h2 rfl h3 h6 h5 n he).mono ?_
    rintro ex w' ⟨rfl, hG, hf⟩
    exact ⟨⟨none, 0, rfl, Nat.le_refl _, F_nil0 _ _⟩, ⟨ne, B, c, hG, F_fr h2 hf ne, h3, h5, h6⟩, hf⟩
theorem ws_uva (h : WS w g U L e) : Calls Try.prog 35 #[.pointer (some ⟨g, 0, none⟩)] w fun ex w' => ex = .returned (.int .u64 (uvR L e).1) ∧ WS w' g U (uvR L e).2.1 (uvR L e).2.2 ∧ Fr (· = g) w w' := by
  obtain ⟨ne, B, c, h1, h2, h3, h5, h6⟩ := h
  unfold uvR
  by_cases he : e = 0
  · rw [if_neg (by simpa using he)]
    obtain ⟨r, n, m, ht⟩ : ∃ r n m, tk 0 0 L = (r, n, m) := ⟨_, _, _, rfl⟩
    have hn : n ≤ L.length := by have := tk_len L; rw [ht] at this; exact this
    have hz := tk_err (l := L)
    rw [ht] at hz ⊢
    by_cases hm : m = 0
    · subst hm
      refine (ruva3 h1 ne h2 rfl h3 h6 h5 he r n ht).mono ?_
      rintro ex w' ⟨rfl, hG, hf⟩
      exact ⟨rfl, ws_cut ne hG h2 hf hn h3 h5 h6, hf⟩
    · obtain ⟨z1, z2⟩ := hz hm
      simp only at z1 z2
      subst z1 z2
      refine (ruva2 h1 ne h2 rfl h3 h6 h5 he 0 0 m ht hm).mono ?_
      rintro ex w' ⟨rfl, hG, hf⟩
      exact ⟨rfl, ⟨ne, B, c, hG, F_fr h2 hf ne, h3, h5, h6⟩, hf⟩
  · rw [if_pos he]
    refine (ruva1 h1 ne h2 rfl h3 h6 h5 he).mono ?_
    rintro ex w' ⟨rfl, hG, hf⟩
    exact ⟨rfl, ⟨ne, B, c, hG, F_fr h2 hf ne, h3, h5, h6⟩, hf⟩
theorem ws_end (h : WS w g U L e) : Calls Try.prog 39 #[.pointer (some ⟨g, 0, none⟩)] w fun ex w' => ex = .returned (.int .i64 (enR L e)) ∧ Below w.heap.size w w' := by
  obtain ⟨ne, B, c, h1, h2, h3, h5, h6⟩ := h
  exact rend_b h1 ne h2 rfl h3 h6 h5
end
section
variable {w : World} {A : Option Addr} {c : Nat} {l : List Int} (hC : Kd.C (Kd.int .u8) w A l.length l) (hc : l.length ≤ c) (hl : l.length ≤ 140737488351232) (hb : Bytes l)
include hC hc hl hb
set_option maxRecDepth 100000 in
theorem read_c : Calls Try.prog 28 #[.slice A l.length c] w fun ex w' => ∃ g, ex = .returned (.pointer (some ⟨g, 0, none⟩)) ∧ w.heap.size ≤ g ∧ RS w' g (fun k => w.heap.size ≤ k ∧ k < g) l 0 ∧ Below w.heap.size w w' := by
  have CC := Aside0.mk hC
  have HC := Aside0.mk hc
  have HL := Aside0.mk hl
  have HB := Aside0.mk hb
  clear hC hc hl hb
  go_enter Try.func28, Try.ntmps28
  go_wp2_with fail
  refine (clone_c (n := l.length) CC.out rfl HC.out HL.out).mono ?_
  rintro e w1 ⟨B, d, rfl, hd, hF, hb⟩
  have F1 := Aside0.mk (Kd.F_bound hF)
  have K1 := Aside0.mk hb
  clear hF hb
  go_wp2_with fail
  go_ret
  refine ⟨w1.heap.size, rfl, K1.out.size, ⟨fun k hk => Nat.ne_of_lt hk.2, B, d, 0, l, heap_new w1 _, Kd.F_alloc F1.out _, hd, Nat.zero_le _, rfl, HB.out, HL.out⟩, K1.out.alloc K1.out.size _⟩
set_option maxRecDepth 100000 in
theorem rread_c : Calls Try.prog 29 #[.slice A l.length c] w fun ex w' => ∃ g, ex = .returned (.pointer (some ⟨g, 0, none⟩)) ∧ w.heap.size ≤ g ∧ WS w' g (fun k => w.heap.size ≤ k ∧ k < g) l 0 ∧ Below w.heap.size w w' := by
  have CC := Aside0.mk hC
  have HC := Aside0.mk hc
  have HL := Aside0.mk hl
  have HB := Aside0.mk hb
  clear hC hc hl hb
  go_enter Try.func29, Try.ntmps29
  go_wp2_with (at_builtin; (refine app_nil rfl (.const (.slice none 0 0)) (.tmp 3) rfl A l.length c l rfl rfl CC.out rfl HL.out ?_); intro B d w1 hd hA hb1; have F1 := Aside0.mk (Kd.F_bound hA); have K1 := Aside0.mk hb1; clear hb1 hA)
  go_ret
  refine ⟨w1.heap.size, rfl, K1.out.size, ⟨fun k hk => Nat.ne_of_lt hk.2, B, d, heap_new w1 _, Kd.F_alloc F1.out _, hd, HB.out, HL.out⟩, K1.out.alloc K1.out.size _⟩
end
end Go.Proofs.Ytnhihiadmllnkaa.Pure
