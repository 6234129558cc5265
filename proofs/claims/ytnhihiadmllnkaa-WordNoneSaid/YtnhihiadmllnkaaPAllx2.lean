-- Written for this claim by a program of this session's own: each Go function that the law uses, as a plain Lean function, with the proof that the machine's call comes to it.
import Derived.Test.YtnhihiadmllnkaaPAllx0
import Derived.Test.YtnhihiadmllnkaaPAllx1
namespace Go.Proofs.Ytnhihiadmllnkaa.PAll
open Go.RowKit Go.Proofs.YtnhihiadmllnkaaW.PrintWords Go.Proofs.YtnhihiadmllnkaaW.PrintLast Go.Proofs.YtnhihiadmllnkaaW.PrintMore
attribute [local go_sem] max2_int min2_int max_two min_two max_three min_three max_four min_four   -- for this text's walks alone
set_option linter.unusedVariables false
set_option linter.unusedSimpArgs false

attribute [local go_sem] setCell_drewN_
/-! ### atticlaw01_live: function 11 -/
-- BY HAND
theorem C_marked8 (w : World) (xs : List Int) (e : Nat) (m : Nat × Nat) (hl : xs.length ≤ 9223372036854775807) :
    Kd.C (Kd.int .u8) (w.alloc (.cells (xs.map (Value.int .u8)).toArray e m)) (some ⟨w.heap.size, 0, none⟩) xs.length xs := by
  refine ⟨rfl, hl, fun _ => ⟨_, rfl, fun j p hj => ⟨[.int .u8 p], rfl, rfl, fun i u hu => ?_⟩⟩⟩
  have hi : i = 0 := by
    rcases Nat.eq_zero_or_pos i with h | h
    · exact h
    · rw [List.getElem?_eq_none (by simp; omega)] at hu
      cases hu
  subst hi
  have hu' : Value.int .u8 p = u := by simpa using hu
  subst hu'
  have : (w.alloc (.cells (xs.map (Value.int .u8)).toArray e m)).heap[w.heap.size]? = some (.cells (xs.map (Value.int .u8)).toArray e m) := by
    show (w.heap.push _)[w.heap.size]? = _
    simp
  have ha : (⟨w.heap.size, 0, none⟩ : Addr).add (j * (Kd.int .u8).sz + 0) = ⟨w.heap.size, j, none⟩ := by
    show (⟨w.heap.size, 0, none⟩ : Addr).add (j * 1 + 0) = ⟨w.heap.size, j, none⟩
    unfold Addr.add
    by_cases h0 : j = 0
    · subst h0; rfl
    · simp [h0]
  rw [ha]
  unfold World.cell?
  simp only [this]
  simp [hj]
def atticlaw01_live.f : Option (Bool) := some true
set_option maxHeartbeats 2000000 in
theorem atticlaw01_live.calls (r : Bool) (w : World) (h : atticlaw01_live.f = some r) :
    Calls Try.prog 11 #[] w fun e w' => e = .returned (.bool r) ∧ Below w.heap.size w w' := by
  obtain rfl := Option.some.inj h
  clear h
  have n1 : word_Num.f 10 2 300 = some [44, 1] := by decide +kernel
  have n2 : word_Uvar.f 10 300 = some [172, 2] := by decide +kernel
  have n3 : word_Sum.f 200 [49, 50, 51, 52, 53, 54, 55, 56, 57] = some 3808858755 := by decide +kernel
  have e1 : bytes_Equal.f [44, 1] [44, 1] = some true := by decide +kernel
  have e2 : bytes_Equal.f [172, 2] [172, 2] = some true := by decide +kernel
  have N1 := Aside0.mk n1
  have N2 := Aside0.mk n2
  have N3 := Aside0.mk n3
  have E1 := Aside0.mk e1
  have E2 := Aside0.mk e2
  clear n1 n2 n3 e1 e2
  have kc := fun (w : World) (C : Array Value) (n c : Nat) => Lib.run_convert_bytes_const (P := Try.prog) w 22 5 C n c Try.underlying22 Try.underlying5
  go_enter Try.func11, Try.ntmps11
  go_wp2_with ((with_reducible refine gate_callee (f := 17) rfl ?_); refine goesL_ (some 1) rfl rfl Try.func17 (by kernel_rfl) rfl #[.int .i64 2, .int .u64 300] rfl (by (try simp only [List.map_toArray, List.map_cons, List.map_nil]); first | done | rfl) ?_)
  (with_reducible refine (word_Num.calls 10 2 300 _ _ N1.out).mono ?_)
  rintro e w1 ⟨v1, rfl, ho1, hb1⟩
  refine ⟨_, rfl, ?_⟩
  obtain ⟨A1, c1, rfl, hc1, hC1⟩ := Kd.R_reads ho1
  have B1 := Aside0.mk hb1
  have D1 := Aside0.mk hC1
  have M1 := Aside0.mk hc1
  clear ho1 hb1 hC1 hc1
  go_wp2_with ((with_reducible refine gate_callee (f := 16) rfl ?_); refine goesL_ (some 3) rfl rfl Try.func16 (by kernel_rfl) rfl #[.slice A1 ([44, 1] : List Int).length c1, .slice (some ⟨w1.heap.size, 0, none⟩) ([44, 1] : List Int).length 2] rfl (by (try simp only [List.map_toArray, List.map_cons, List.map_nil]); first | done | rfl) ?_)
  refine (bytes_Equal.calls A1 c1 [44, 1] (some ⟨w1.heap.size, 0, none⟩) 2 [44, 1] true _ ?_ M1.out ?_ ?_ E1.out).mono ?_
  · exact Kd.C_alloc D1.out _
  · exact C_marked8 w1 [44, 1] 5 _ (by simp)
  · simp
  rintro e w2 ⟨rfl, ⟨nd, rfl⟩⟩
  refine ⟨_, rfl, ?_⟩
  have B2 := Aside0.mk (pw_below_drewN (below_alloc B1.out (.cells #[.int .u8 44, .int .u8 1] 5)) nd)
  generalize (w1.alloc (.cells #[.int .u8 44, .int .u8 1] 5)).drewN nd = W2 at B2 ⊢
  clear B1 D1 M1
  go_wp2_with fail
  (with_reducible refine (word_Uvar.calls 10 300 _ _ N2.out).mono ?_)
  rintro e w3 ⟨v1, rfl, ho1, hb1⟩
  obtain ⟨A2, c2, rfl, hc1, hC1⟩ := Kd.R_reads ho1
  have B1 := Aside0.mk (below_step B2.out hb1)
  have D1 := Aside0.mk hC1
  have M1 := Aside0.mk hc1
  clear ho1 hb1 hC1 hc1 B2
  go_wp2_with fail
  refine (bytes_Equal.calls A2 c2 [172, 2] (some ⟨w3.heap.size, 0, none⟩) 2 [172, 2] true _ ?_ M1.out ?_ ?_ E2.out).mono ?_
  · exact Kd.C_alloc D1.out _
  · exact C_marked8 w3 [172, 2] 5 _ (by simp)
  · simp
  rintro e w4 ⟨rfl, ⟨nd, rfl⟩⟩
  have B2 := Aside0.mk (pw_below_drewN (below_alloc B1.out (.cells #[.int .u8 172, .int .u8 2] 5)) nd)
  generalize (w3.alloc (.cells #[.int .u8 172, .int .u8 2] 5)).drewN nd = W4 at B2 ⊢
  clear B1 D1 M1
  go_wp2_with fail
  refine (word_Sum.calls 200 (some ⟨W4.heap.size, 0, none⟩) 9 [49, 50, 51, 52, 53, 54, 55, 56, 57] _ _ ?_ ?_ N3.out).mono ?_
  · exact C_marked8 W4 [49, 50, 51, 52, 53, 54, 55, 56, 57] 5 _ (by simp)
  · simp
  rintro e w5 ⟨rfl, ⟨nd, rfl⟩⟩
  have B3 := Aside0.mk (pw_below_drewN (below_alloc B2.out (.cells #[.int .u8 49, .int .u8 50, .int .u8 51, .int .u8 52, .int .u8 53, .int .u8 54, .int .u8 55, .int .u8 56, .int .u8 57] 5 (9, 10))) nd)
  generalize (W4.alloc (.cells #[.int .u8 49, .int .u8 50, .int .u8 51, .int .u8 52, .int .u8 53, .int .u8 54, .int .u8 55, .int .u8 56, .int .u8 57] 5 (9, 10))).drewN nd = W5 at B3 ⊢
  clear B2
  go_wp2
  go_ret
  exact ⟨rfl, B3.out⟩


end Go.Proofs.Ytnhihiadmllnkaa.PAll
