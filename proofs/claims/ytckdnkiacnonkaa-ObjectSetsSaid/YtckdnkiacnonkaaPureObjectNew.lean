/- A new object's slot tells the shape and the number that it was made of; pointers and data are noughts. -/
import Derived.Test.YtckdnkiacnonkaaObjB
namespace Go.Proofs.Ytckdnkiacnonkaa.Pure
open Go.RowKit Go.Proofs.Ytckdnkiacnonkaa.PAll Go.Proofs.Ytckdnkiacnonkaa.Mem Go.Proofs.YtckdnkiacnonkaaW.PrintWords Go.Proofs.YtckdnkiacnonkaaW.PrintLast Go.Proofs.YtckdnkiacnonkaaW.PrintMore
set_option linter.unusedVariables false
set_option linter.unusedSimpArgs false

theorem make_c (w : World) {a b c g : Int} {r : List Int} {n : Int} (h : MK a b c g = (r, n)) : Calls Try.prog 10 #[.agg #[.int .i64 a, .int .i64 b, .int .i64 c], .int .i64 g] w (Gives2 w r n) := by
  refine (object_Make.calls 40 a b c g r n w (by rw [make_w 40 a b c g (Nat.le_refl _), h])).mono ?_
  rintro e w' ⟨v, rfl, ho, hb⟩
  exact gives2_of ho hb
theorem rof_c (w : World) {a b c : Int} {r n : Int} (h : OF a b c = (r, n)) : Calls Try.prog 27 #[.agg #[.int .i64 a, .int .i64 b, .int .i64 c]] w fun e w' => e = .returned (.tuple #[.int .i64 r, .int .i64 n]) ∧ Below w.heap.size w w' :=
  atticref11_Of.calls 20 a b c r n w (by rw [of_r 0]; show some (OF a b c) = _; rw [h])
theorem rslot_c (w : World) (n : Nat) (h : n < 6) {s : Nat} (hs : class_Of.slot n = (s : Int)) : Calls Try.prog 28 #[.int .i64 (n : Int)] w fun e w' => e = .returned (.int .i64 (s : Int)) ∧ Below w.heap.size w w' := by
  refine (atticref11_Slot.calls 8 (n : Int) (s : Int) w (by rw [slot_r 0 n h, hs])).mono ?_
  rintro e w' ⟨rfl, hd⟩
  exact ⟨rfl, by first | exact hd | exact drawn_below hd⟩
theorem parse3_c {A : Option Addr} {c : Nat} {l : List Int} {w : World} (hC : Kd.C (Kd.int .u8) w A l.length l) (hc : l.length ≤ c) (hb : Bytes l) (hl : l.length ≤ 140737488351232) {x y z g : Int} (h : Obj3 l x y z g) :
    Calls Try.prog 12 #[.slice A l.length c] w fun e w' => e = .returned (.tuple #[.agg #[.int .i64 x, .int .i64 y, .int .i64 z], .int .i64 g, .int .i64 0]) ∧ Below w.heap.size w w' := by
  have h1 := (parse_yes 1200 l hb hl (Nat.le_refl _) h.obj).1
  rw [h.a_, h.b_, h.c_, h.g_] at h1
  exact object_Parse.calls 1200 A c l _ _ _ _ _ w hC hc h1
theorem made_row (W : World) (k : IntKind) (e m : Nat) : (W.alloc (.cells (madeCells #[.int k 0] m) e)).heap[W.heap.size]? = some (.cells (encs (Value.int k) (List.replicate m 0)).toArray e (0, 0)) := by
  rw [World.alloc_heap_new]
  congr 2
  apply Array.ext
  · simp [encs, size_madeCells]
  · intro i h1 h2
    simp [encs, madeCells, Nat.mod_one]
theorem made_C (W : World) (k : IntKind) (e m : Nat) (hm : m ≤ 9223372036854775807) : Kd.C (Kd.int k) (W.alloc (.cells (madeCells #[.int k 0] m) e)) (some ⟨W.heap.size, 0, none⟩) m (List.replicate m 0) := by
  have := blk_C (enc := Value.int k) (h1 := fun _ => rfl) (o := 0) (xs := List.replicate m (0 : Int)) (made_row W k e m) (by rw [List.drop_zero, List.take_of_length_le]; simp [encs]) (by rw [List.length_replicate]; exact hm)
  rw [List.length_replicate] at this
  exact this
theorem info5z : (Try.prog.info? 5).map (fun i => (i.zero, i.size, i.bytes)) = some (some (.int .u8 0), 1, 1) := by kernel_rfl
set_option maxRecDepth 100000 in
set_option maxHeartbeats 8000000 in
theorem objectNew (w : World) (a b c g : Int) (hb : -9223372036854775808 ≤ b ∧ b ≤ 9223372036854775807) :
    Calls Try.prog 6 #[.agg #[.int .i64 a, .int .i64 b, .int .i64 c], .int .i64 g] w fun e w' => e = .returned (.bool true) ∧ Below w.heap.size w w' := by
  have hu23 := Try.underlying23
  obtain ⟨r, n, hr⟩ : ∃ r n, MK a b c g = (r, n) := ⟨_, _, rfl⟩
  have HR := Aside0.mk hr
  have K0 := Aside0.mk ((Below.refl w.heap.size w).alloc (Nat.le_refl _) (.cells #[.int .i64 a, .int .i64 b, .int .i64 c] 23))
  have B0 := Aside0.mk (World.alloc_heap_new w (.cells #[.int .i64 a, .int .i64 b, .int .i64 c] 23))
  clear hr hb
  go_enter Try.func6, Try.ntmps6
  go_wp2_with fail
  refine (make_c _ HR.out).mono ?_
  rintro e w1 ⟨X, x, rfl, hx, hX, hb1⟩
  have K1 := Aside0.mk (K0.out.trans (hb1.mono K0.out.size))
  have B1 := Aside0.mk ((hb1.block _ (blk_lt B0.out)).trans B0.out)
  have X1 := Aside0.mk hX
  have XD := Aside0.mk hx
  clear hX hx hb1
  go_wp2_with fail
  refine (live_c _).mono ?_
  rintro e w2 ⟨rfl, hb2⟩
  have K2 := Aside0.mk (K1.out.trans (hb2.mono K1.out.size))
  have B2 := Aside0.mk ((hb2.block _ (blk_lt B1.out)).trans B1.out)
  have X2 := Aside0.mk (Kd.C_below X1.out hb2)
  clear hb2
  by_cases h0 : n = 0
  case neg =>
    have hq : (n != 0) = true := by simpa using h0
    have hq2 : (n == 0) = false := by simpa using h0
    have hr0 : r = [] := by
      have := MK_no (a := a) (b := b) (c := c) (g := g) (by rw [HR.out]; exact h0)
      rw [HR.out] at this
      exact this
    subst hr0
    clear h0
    go_wp2_with fail
    refine (live_c _).mono ?_
    rintro e w3 ⟨rfl, hb3⟩
    have K3 := Aside0.mk (K2.out.trans (hb3.mono K2.out.size))
    clear hb3
    go_wp2_with fail
    go_ret
    exact ⟨by simp, K3.out⟩
  subst h0
  obtain ⟨hd, hmk⟩ := MK_ok (a := a) (b := b) (c := c) (g := g) (by rw [HR.out])
  have hrn : r = newL a b c g := by rw [HR.out] at hmk; injection hmk
  have HO := newL_obj hd
  have HLn := newL_length hd
  have HBy := newL_bytes a b c g
  have hPL := newL_pL hd
  have hDX := newL_dX hd
  obtain ⟨n6, s, hn6, e6, hs1, hsl, s1, s2⟩ := SL_of (HD_OF hd).1
  have hOF : OF a b c = ((n6 : Int), 0) := by rw [← e6, ← (HD_OF hd).1]
  rw [← hrn] at HO HLn HBy hPL hDX
  obtain ⟨q1, q2, q3, q4, q5, q6⟩ := HO.obj.shape
  rw [HO.a_, HO.b_, HO.c_] at q1
  have cb := (chk_ok q1).2.1
  have cc := (chk_ok q1).2.2.1
  obtain ⟨nb, rfl⟩ := Int.eq_ofNat_of_zero_le cb.1
  obtain ⟨nc, rfl⟩ := Int.eq_ofNat_of_zero_le cc.1
  rw [Int.toNat_natCast] at hPL hDX
  have hls : r.length = s := by rw [HLn, hsl]
  have OO := Aside0.mk HO
  have BY := Aside0.mk HBy
  have RL := Aside0.mk (show r.length ≤ 140737488351232 by omega)
  have OFF := Aside0.mk hOF
  have S6 := Aside0.mk hs1
  have N6 := Aside0.mk hn6
  have PLL := Aside0.mk hPL
  have DXX := Aside0.mk hDX
  have LS := Aside0.mk hls
  have NB := Aside0.mk (show nb ≤ 126 by omega)
  have NC := Aside0.mk (show nc ≤ 1008 by omega)
  obtain ⟨L, hL⟩ : ∃ L : List Int, L = List.replicate nb 0 := ⟨_, rfl⟩
  obtain ⟨D, hD⟩ : ∃ D : List Int, D = List.replicate nc 0 := ⟨_, rfl⟩
  have h9 : (pL r).take (999 : Int).toNat = L := by rw [hPL, hL, List.take_of_length_le]; rw [List.length_replicate]; omega
  have T9 := Aside0.mk (fun (w : World) (h : Kd.C (Kd.int .u8) w X r.length r) => ptrs_c h XD.out BY.out RL.out 999)
  rw [h9] at T9
  have DA1 := Aside0.mk (show DA r = (D, 0) by unfold DA; rw [if_pos HO.obj, hDX, hD])
  have LL := Aside0.mk hL
  have DD := Aside0.mk hD
  clear hL hD h9 hd hmk hrn HO HLn HBy hPL hDX hn6 e6 hs1 hsl s1 s2 hOF q1 q2 q3 q4 q5 q6 cb cc hls HR
  have d0 : w2.cell? ⟨w.heap.size, 0, none⟩ = some (.int .i64 a) := by rw [blk_cell B2.out]; rfl
  have d1 : w2.cell? ⟨w.heap.size, 1, none⟩ = some (.int .i64 nb) := by rw [blk_cell B2.out]; rfl
  have d2 : w2.cell? ⟨w.heap.size, 2, none⟩ = some (.int .i64 nc) := by rw [blk_cell B2.out]; rfl
  go_wp2_with fail
  refine (rof_c _ OFF.out).mono ?_
  rintro e w3 ⟨rfl, hb3⟩
  have K3 := Aside0.mk (K2.out.trans (hb3.mono K2.out.size))
  have B3 := Aside0.mk ((hb3.block _ (blk_lt B2.out)).trans B2.out)
  have X3 := Aside0.mk (Kd.C_below X2.out hb3)
  clear hb3 d0 d1 d2
  go_wp2_with fail
  refine (parse3_c X3.out XD.out BY.out RL.out OO.out).mono ?_
  rintro e w4 ⟨rfl, hb4⟩
  have K4 := Aside0.mk (K3.out.trans (hb4.mono K3.out.size))
  have B4 := Aside0.mk ((hb4.block _ (blk_lt B3.out)).trans B3.out)
  have X4 := Aside0.mk (Kd.C_below X3.out hb4)
  have K4' := Aside0.mk (K4.out.alloc K4.out.size (.cells #[.int .i64 a, .int .i64 (nb : Int), .int .i64 (nc : Int)] 23))
  have B4' := Aside0.mk ((Below.heap_alloc w4 (.cells #[.int .i64 a, .int .i64 (nb : Int), .int .i64 (nc : Int)] 23) _ (blk_lt B4.out)).trans B4.out)
  have X4' := Aside0.mk (Kd.C_alloc X4.out (.cells #[.int .i64 a, .int .i64 (nb : Int), .int .i64 (nc : Int)] 23))
  have Z4 := Aside0.mk (World.alloc_heap_new w4 (.cells #[.int .i64 a, .int .i64 (nb : Int), .int .i64 (nc : Int)] 23))
  clear hb4
  go_wp2_with fail
  refine (rslot_c _ n6 N6.out S6.out).mono ?_
  rintro e w5 ⟨rfl, hb5⟩
  have K5 := Aside0.mk (K4'.out.trans (hb5.mono K4'.out.size))
  have B5 := Aside0.mk ((hb5.block _ (blk_lt B4'.out)).trans B4'.out)
  have Z5 := Aside0.mk ((hb5.block _ (blk_lt Z4.out)).trans Z4.out)
  have X5 := Aside0.mk (Kd.C_below X4'.out hb5)
  have ls := LS.out
  have d0 : w5.cell? ⟨w.heap.size, 0, none⟩ = some (.int .i64 a) := by rw [blk_cell B5.out]; rfl
  have d1 : w5.cell? ⟨w.heap.size, 1, none⟩ = some (.int .i64 nb) := by rw [blk_cell B5.out]; rfl
  have d2 : w5.cell? ⟨w.heap.size, 2, none⟩ = some (.int .i64 nc) := by rw [blk_cell B5.out]; rfl
  have z0 : w5.cell? ⟨w4.heap.size, 0, none⟩ = some (.int .i64 a) := by rw [blk_cell Z5.out]; rfl
  have z1 : w5.cell? ⟨w4.heap.size, 1, none⟩ = some (.int .i64 nb) := by rw [blk_cell Z5.out]; rfl
  have z2 : w5.cell? ⟨w4.heap.size, 2, none⟩ = some (.int .i64 nc) := by rw [blk_cell Z5.out]; rfl
  clear hb5
  have e1 : ((r.length : Int) != (s : Int)) = false := by rw [ls]; simp
  have e2 : (r.length != s) = false := by rw [ls]; simp
  have e3 : (r.length == s) = true := by rw [ls]; simp
  clear ls
  go_wp2_with fail
  refine (T9.out _ X5.out).mono ?_
  rintro e w6 ⟨Y, y, rfl, hy, hY, hb6⟩
  have K6 := Aside0.mk (K5.out.trans (hb6.mono K5.out.size))
  have B6 := Aside0.mk ((hb6.block _ (blk_lt B5.out)).trans B5.out)
  have X6 := Aside0.mk (Kd.C_below X5.out hb6)
  have Y6 := Aside0.mk hY
  have YD := Aside0.mk hy
  clear hb6 hY hy e1 e2 e3 d0 d1 d2 z0 z1 z2
  go_wp2_with fail
  refine (Data_c X6.out XD.out BY.out RL.out DA1.out).mono ?_
  rintro e w7 ⟨V, v, rfl, hv, hV, hb7⟩
  have K7 := Aside0.mk (K6.out.trans (hb7.mono K6.out.size))
  have B7 := Aside0.mk ((hb7.block _ (blk_lt B6.out)).trans B6.out)
  have Y7 := Aside0.mk (Kd.C_below Y6.out hb7)
  have V7 := Aside0.mk hV
  have VD := Aside0.mk hv
  clear hb7 hV hv
  have hll : (L.length : Int) ≤ 1000 := by rw [LL.out, List.length_replicate]; have := NB.out; omega
  go_wp2_with fail
  go_loop [13, 82] (fun ok i => ∃ k : Nat, k ≤ L.length ∧ i = .int .i64 k ∧ ok = .bool true) (fun _ i => L.length - (intOf i).toNat)
  case atStart => exact ⟨0, Nat.zero_le _, rfl, rfl⟩
  case round =>
    obtain ⟨k, hk, rfl, rfl⟩ := hrel
    by_cases hlt : k < L.length
    · have hgd : decide (k < L.length) = true := decide_eq_true hlt
      obtain ⟨ad, ea, hc⟩ := Kd.at_int Y7.out (k : Int) (by omega) (by omega)
      have hz : rd L (k : Int) = 0 := by
        have hlt2 := hlt
        unfold rd
        rw [LL.out] at hlt2 ⊢
        rw [Int.toNat_natCast, List.getD_eq_getElem?_getD, List.getElem?_eq_getElem hlt2]
        simp
      rw [hz, Int.toNat_natCast] at hc
      cases ea
      have hkk : (k : Int) ≤ 1000 := by omega
      clear hz
      go_wp2
      go_round
      case rel => exact ⟨k + 1, by omega, by go_num, rfl⟩
      case measure => simp [intOf]; omega
    · have hge : decide (k < L.length) = false := decide_eq_false hlt
      have hge2 : L.length ≤ k := by omega
      clear hlt hk
      have hln : ((L.length : Int) == (nb : Int)) = true := by rw [LL.out, List.length_replicate]; simp
      have hln2 : (L.length == nb) = true := by rw [LL.out, List.length_replicate]; simp
      have d0 : w7.cell? ⟨w.heap.size, 0, none⟩ = some (.int .i64 a) := by rw [blk_cell B7.out]; rfl
      have d1 : w7.cell? ⟨w.heap.size, 1, none⟩ = some (.int .i64 nb) := by rw [blk_cell B7.out]; rfl
      have d2 : w7.cell? ⟨w.heap.size, 2, none⟩ = some (.int .i64 nc) := by rw [blk_cell B7.out]; rfl
      have hmk := print_make (P := Try.prog) 24 5 .u8 1 Try.underlying24 info5z (by decide) nc (by have := NC.out; omega)
      have K7' := Aside0.mk (K7.out.alloc K7.out.size (.cells (madeCells #[.int .u8 0] nc) 5))
      have V7' := Aside0.mk (Kd.C_alloc V7.out (.cells (madeCells #[.int .u8 0] nc) 5))
      have M7 := Aside0.mk (made_C w7 .u8 5 nc (by have := NC.out; omega))
      have DL := Aside0.mk (show D.length = nc by rw [DD.out, List.length_replicate])
      have Q := equal_c (A2 := some ⟨w7.heap.size, 0, none⟩) (c2 := nc) V7'.out VD.out (x := D) (by rw [DL.out, DD.out]; exact M7.out) (by rw [DL.out]; exact Nat.le_refl _) (equal_self D)
      rw [DL.out] at Q
      have QQ := Aside0.mk Q
      have dl := DL.out
      rw [dl] at *
      clear Q dl
      go_wp2_with fail
      refine QQ.out.mono ?_
      rintro e w8 ⟨rfl, hb8⟩
      have K8 := Aside0.mk (K7'.out.trans (hb8.mono K7'.out.size))
      clear hb8
      go_wp2_with fail
      go_ret
      exact ⟨by simp, K8.out⟩
theorem wf64 {a : Int} (h : (Lit.int .i64 a).wf = true) : -9223372036854775808 ≤ a ∧ a ≤ 9223372036854775807 := by
  simp [Lit.wf, IntKind.min, IntKind.max, IntKind.signed, IntKind.bits] at h
  omega
theorem ObjectNew (w : World) (a : Int) (_ha : (Lit.int .i64 a).wf = true) (b : Int) (hb : (Lit.int .i64 b).wf = true) (c : Int) (_hc : (Lit.int .i64 c).wf = true) (g : Int) (_hg : (Lit.int .i64 g).wf = true) :
    Calls Try.prog 6 #[.agg #[.int .i64 a, .int .i64 b, .int .i64 c], .int .i64 g] w fun e w' => e = .returned (.bool true) ∧ Below w.heap.size w w' :=
  objectNew w a b c g (wf64 hb)
end Go.Proofs.Ytckdnkiacnonkaa.Pure
