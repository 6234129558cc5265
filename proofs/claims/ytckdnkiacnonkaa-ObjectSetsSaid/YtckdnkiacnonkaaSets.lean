/- Behind whatever is set of a new object just that is another one; for all shapes and all that is set. -/
import Derived.Test.YtckdnkiacnonkaaSetFresh
import Derived.Test.YtckdnkiacnonkaaPureObjectNew
import Derived.Deep.RegionLaw
namespace Go.Proofs.Ytckdnkiacnonkaa.Pure
open Go.RowKit Go.Proofs.Ytckdnkiacnonkaa.PAll Go.Proofs.Ytckdnkiacnonkaa.Mem Go.Proofs.YtckdnkiacnonkaaW.PrintWords Go.Proofs.YtckdnkiacnonkaaW.PrintLast Go.Proofs.YtckdnkiacnonkaaW.PrintMore
attribute [local go_sem] max2_int min2_int max_two min_two
set_option linter.unusedVariables false
set_option linter.unusedSimpArgs false

/-- What is set. -/
structure SetT where
  p : Bool
  i : Int
  u : Nat
  x : List Int
/-- Its cells. -/
def SetK (W : World) (s : SetT) (cs : List Value) : Prop := ∃ A c, cs = [.bool s.p, .int .i64 s.i, .int .u64 (s.u : Int), .slice A s.x.length c] ∧ s.x.length ≤ c ∧ s.x.length ≤ 140737488351232 ∧ (-9223372036854775808 ≤ s.i ∧ s.i ≤ 9223372036854775807) ∧ s.u < 18446744073709551616 ∧ Bytes s.x ∧ Kd.C (Kd.int .u8) W A s.x.length s.x
theorem SetK_below {w w1 : World} {s : SetT} {cs : List Value} (h : SetK w s cs) (hb : Below w.heap.size w w1) : SetK w1 s cs := by
  obtain ⟨A, c, h1, h2, h3, h4, h5, h6, h7⟩ := h
  exact ⟨A, c, h1, h2, h3, h4, h5, h6, Kd.C_below h7 hb⟩
def SetsC (W : World) (A : Option Addr) (n : Nat) (xs : List SetT) : Prop := ReadsRow (SetK W) 4 W A n xs
theorem SetsC_below {w w1 : World} {A : Option Addr} {n : Nat} {xs : List SetT} (h : SetsC w A n xs) (hb : Below w.heap.size w w1) : SetsC w1 A n xs := h.imp_ hb (fun _ _ hp => SetK_below hp hb)
theorem sets_at {w : World} {A : Option Addr} {n : Nat} {xs : List SetT} (h : SetsC w A n xs) (i : Nat) (hi : i < xs.length) : ∃ ad B c, A = some ad ∧ w.cell? (ad.add (i * 4)) = some (.bool xs[i].p) ∧ w.cell? ⟨(ad.add (i * 4)).block, (ad.add (i * 4)).off + 1, none⟩ = some (.int .i64 xs[i].i) ∧ w.cell? ⟨(ad.add (i * 4)).block, (ad.add (i * 4)).off + 2, none⟩ = some (.int .u64 (xs[i].u : Int)) ∧ w.cell? ⟨(ad.add (i * 4)).block, (ad.add (i * 4)).off + 3, none⟩ = some (.slice B xs[i].x.length c) ∧
    xs[i].x.length ≤ c ∧ xs[i].x.length ≤ 140737488351232 ∧ (-9223372036854775808 ≤ xs[i].i ∧ xs[i].i ≤ 9223372036854775807) ∧ xs[i].u < 18446744073709551616 ∧ Bytes xs[i].x ∧ Kd.C (Kd.int .u8) w B xs[i].x.length xs[i].x := by
  obtain ⟨ad, hA, hc⟩ := h.2.2 (by have := h.1; omega)
  obtain ⟨cs, hl, ⟨B, c, rfl, h2, h3, h4, h5, h6, h7⟩, hcell⟩ := hc i _ (List.getElem?_eq_getElem hi)
  have q0 := hcell 0 _ rfl
  have q1 := hcell 1 _ rfl
  have q2 := hcell 2 _ rfl
  have q3 := hcell 3 _ rfl
  rw [Nat.add_zero] at q0
  rw [add_field ad (i * 4) 1 (by decide)] at q1
  rw [add_field ad (i * 4) 2 (by decide)] at q2
  rw [add_field ad (i * 4) 3 (by decide)] at q3
  exact ⟨ad, B, c, hA, q0, q1, q2, q3, h2, h3, h4, h5, h6, h7⟩
theorem made_obj (k : IntKind) (e m : Nat) : (Obj.cells (madeCells #[.int k 0] m) e) = .cells (encs (Value.int k) (List.replicate m 0)).toArray e (0, 0) := by
  congr 1
  apply Array.ext
  · simp [encs, size_madeCells]
  · intro i h1 h2
    simp [encs, madeCells, Nat.mod_one]
theorem alloc_two (W : World) (o1 o2 : Obj) : (((W.alloc o1).alloc o2).drew.heap[W.heap.size]? = some o1) ∧ (((W.alloc o1).alloc o2).drew.heap[W.heap.size + 1]? = some o2) ∧ Below W.heap.size W ((W.alloc o1).alloc o2).drew := by
  refine ⟨?_, ?_, below_drew (((Below.refl _ W).alloc (Nat.le_refl _) _).alloc (by simp) _)⟩
  · show ((W.alloc o1).alloc o2).heap[W.heap.size]? = _
    rw [Below.heap_alloc _ _ _ (by simp)]
    exact World.alloc_heap_new W o1
  · show ((W.alloc o1).alloc o2).heap[W.heap.size + 1]? = _
    have := World.alloc_heap_new (W.alloc o1) o2
    rwa [World.size_alloc] at this
/-- The plain step of a set pointer. -/
theorem SP_in {l : List Int} {a c : Int} {nb : Nat} (h : Obj3 l a nb c 7) (hb : Bytes l) (p u : Nat) (hp : p < nb) (hu : u < 18446744073709551616) :
    ∃ l', SP l (p : Int) (u : Int) = (l', 0) ∧ Obj3 l' a nb c 7 ∧ Bytes l' ∧ pL l' = (pL l).set p (u : Int) ∧ dX l' = dX l ∧ l'.length = l.length := by
  have hpn : pn l = nb := by unfold pn; rw [h.b_]; rfl
  refine ⟨over l (16 + 8 * p) (numL 8 u), ?_, set_ptr h hb p u (by omega) hu⟩
  unfold SP
  rw [if_pos h.obj, if_neg (by omega), Int.toNat_natCast, Int.toNat_natCast]
theorem SP_out {l : List Int} {a c : Int} {nb : Nat} (h : Obj3 l a nb c 7) (i : Int) (u : Nat) (hi : i < 0 ∨ i ≥ (nb : Int)) : SP l i (u : Int) = ([], 131) := by
  have hpn : pn l = nb := by unfold pn; rw [h.b_]; rfl
  unfold SP
  rw [if_pos h.obj, if_pos (by omega)]
theorem SD_in {l x : List Int} {a b : Int} {nc : Nat} (h : Obj3 l a b nc 7) (hb : Bytes l) (hx : Bytes x) (p : Nat) (hp : p + x.length ≤ nc) :
    ∃ l', SD l (p : Int) x = (l', 0) ∧ Obj3 l' a b nc 7 ∧ Bytes l' ∧ pL l' = pL l ∧ dX l' = over (dX l) p x ∧ l'.length = l.length := by
  have hdn : dn l = nc := by unfold dn; rw [h.c_]; rfl
  refine ⟨over l (dfr l + p) x, ?_, set_data h hb hx p (by omega)⟩
  unfold SD
  rw [if_pos h.obj, if_neg (by omega), Int.toNat_natCast]
theorem SD_out {l x : List Int} {a b : Int} {nc : Nat} (h : Obj3 l a b nc 7) (i : Int) (hi : i < 0 ∨ i > (nc : Int) ∨ (x.length : Int) > (nc : Int) - i) : SD l i x = ([], 131) := by
  have hdn : dn l = nc := by unfold dn; rw [h.c_]; rfl
  unfold SD
  rw [if_pos h.obj, if_pos (by omega)]
theorem Obj3.lens {l : List Int} {a : Int} {nb nc : Nat} (h : Obj3 l a nb nc 7) : (pL l).length = nb ∧ (dX l).length = nc ∧ l.length ≤ 1024 := by
  obtain ⟨e1, e2, e3, e4, e5, e6, e7⟩ := h.obj.nums
  refine ⟨?_, ?_, e4⟩
  · rw [pL_length]
    unfold np pn
    rw [if_pos h.obj, h.b_]
    rfl
  · rw [e7]
    unfold dn
    rw [h.c_]
    rfl
theorem info52s : (Try.prog.info? 52).map (·.size) = some 4 := by kernel_rfl
set_option maxRecDepth 100000 in
set_option maxHeartbeats 16000000 in
theorem objectSets (w : World) (a b c : Int) (A : Option Addr) (cp : Nat) (xs : List SetT) (hS : SetsC w A xs.length xs) (hcp : xs.length ≤ cp) :
    Calls Try.prog 7 #[.agg #[.int .i64 a, .int .i64 b, .int .i64 c], .slice A xs.length cp] w fun e w' => e = .returned (.bool true) ∧ Below w.heap.size w w' := by
  have hu23 := Try.underlying23
  obtain ⟨r, n, hr⟩ : ∃ r n, MK a b c 7 = (r, n) := ⟨_, _, rfl⟩
  have HR := Aside0.mk hr
  have HS := Aside0.mk hS
  have HCP := Aside0.mk hcp
  have HXL := Aside0.mk hS.2.1
  have K0 := Aside0.mk ((Below.refl w.heap.size w).alloc (Nat.le_refl _) (.cells #[.int .i64 a, .int .i64 b, .int .i64 c] 23))
  have B0 := Aside0.mk (World.alloc_heap_new w (.cells #[.int .i64 a, .int .i64 b, .int .i64 c] 23))
  clear hr hS hcp
  go_enter Try.func7, Try.ntmps7
  go_wp2_with fail
  refine (make_c _ HR.out).mono ?_
  rintro e w1 ⟨X, x, rfl, hx, hX, hb1⟩
  have K1 := Aside0.mk (K0.out.trans (hb1.mono K0.out.size))
  have B1 := Aside0.mk ((hb1.block _ (blk_lt B0.out)).trans B0.out)
  have X1 := Aside0.mk hX
  have XD := Aside0.mk hx
  clear hX hx hb1
  go_wp2_with fail
  refine (live_c _).mono ?_
  rintro e w2 ⟨rfl, hb2⟩
  have K2 := Aside0.mk (K1.out.trans (hb2.mono K1.out.size))
  have B2 := Aside0.mk ((hb2.block _ (blk_lt B1.out)).trans B1.out)
  have X2 := Aside0.mk (Kd.C_below X1.out hb2)
  clear hb2
  by_cases h0 : n = 0
  case neg =>
    have hq : (n != 0) = true := by simpa using h0
    have hq2 : (n == 0) = false := by simpa using h0
    have hr0 : r = [] := by
      have := MK_no (a := a) (b := b) (c := c) (g := 7) (by rw [HR.out]; exact h0)
      rw [HR.out] at this
      exact this
    subst hr0
    clear h0
    go_wp2_with fail
    refine (live_c _).mono ?_
    rintro e w3 ⟨rfl, hb3⟩
    have K3 := Aside0.mk (K2.out.trans (hb3.mono K2.out.size))
    clear hb3
    go_wp2_with fail
    go_ret
    exact ⟨by simp, K3.out⟩
  subst h0
  obtain ⟨hd, hmk⟩ := MK_ok (a := a) (b := b) (c := c) (g := 7) (by rw [HR.out])
  have hrn : r = newL a b c 7 := by rw [HR.out] at hmk; injection hmk
  have HO := newL_obj hd
  have HLn := newL_length hd
  have HBy := newL_bytes a b c 7
  have hPL := newL_pL hd
  have hDX := newL_dX hd
  obtain ⟨n6, s, hn6, e6, hs1, hsl, s1, s2⟩ := SL_of (HD_OF hd).1
  rw [← hrn] at HO HLn HBy hPL hDX
  obtain ⟨q1, q2, q3, q4, q5, q6⟩ := HO.obj.shape
  rw [HO.a_, HO.b_, HO.c_] at q1
  have cb := (chk_ok q1).2.1
  have cc := (chk_ok q1).2.2.1
  obtain ⟨nb, rfl⟩ := Int.eq_ofNat_of_zero_le cb.1
  obtain ⟨nc, rfl⟩ := Int.eq_ofNat_of_zero_le cc.1
  rw [Int.toNat_natCast] at hPL hDX
  have OO := Aside0.mk HO
  have BY := Aside0.mk HBy
  have PLL := Aside0.mk hPL
  have DXX := Aside0.mk hDX
  have NB := Aside0.mk (show nb ≤ 126 by omega)
  have NC := Aside0.mk (show nc ≤ 1008 by omega)
  have hmk1 := print_make (P := Try.prog) 40 36 .u64 8 Try.underlying40 info36_ (by decide) nb (by omega)
  have hmk2 := print_make (P := Try.prog) 24 5 .u8 1 Try.underlying24 info5z (by decide) nc (by omega)
  clear hd hmk hrn HO HLn HBy hPL hDX hn6 e6 hs1 hsl s1 s2 q1 q2 q3 q4 q5 q6 cb cc HR
  have d0 : w2.cell? ⟨w.heap.size, 0, none⟩ = some (.int .i64 a) := by rw [blk_cell B2.out]; rfl
  have d1 : w2.cell? ⟨w.heap.size, 1, none⟩ = some (.int .i64 nb) := by rw [blk_cell B2.out]; rfl
  have d2 : w2.cell? ⟨w.heap.size, 2, none⟩ = some (.int .i64 nc) := by rw [blk_cell B2.out]; rfl
  have lt2 := blk_lt B2.out
  go_upto_region 4 with fail
  go_cut [7, 8] from 38 to 43 (fun v7 v8 w' => ∃ gw gd, v7 = .slice (some ⟨gw, 0, none⟩) nb nb ∧ v8 = .slice (some ⟨gd, 0, none⟩) nc nc ∧ Aside0 (w'.heap[gw]? = some (.cells (encs (Value.int .u64) (pL r)).toArray 36 (0, 0))) ∧ Aside0 (w'.heap[gd]? = some (.cells (encs (Value.int .u8) (dX r)).toArray 5 (0, 0))) ∧ Aside0 (w.heap.size < gw ∧ w.heap.size < gd) ∧ Aside0 (Below w2.heap.size w2 w'))
  case first =>
    go_region_with fail
    all_goals
      go_wp2_with fail
      go_meet
      case rel =>
        have e1 := made_obj .u64 36 nb
        have e2 := made_obj .u8 5 nc
        rw [← PLL.out] at e1
        rw [← DXX.out] at e2
        have o1 := alloc_two w2 (.cells (madeCells #[.int .u64 0] nb) 36) (.cells (madeCells #[.int .u8 0] nc) 5)
        have o2 := alloc_two w2 (.cells (madeCells #[.int .u8 0] nc) 5) (.cells (madeCells #[.int .u64 0] nb) 36)
        rw [e1, e2] at o1 o2
        first
          | exact ⟨⟨w2.heap.size, w2.heap.size + 1, rfl, rfl, ⟨by rw [e1, e2]; exact o1.1⟩, ⟨by rw [e1, e2]; exact o1.2.1⟩, ⟨⟨by omega, by omega⟩⟩, ⟨by rw [e1, e2]; exact o1.2.2⟩⟩, rfl⟩
          | exact ⟨w2.heap.size, w2.heap.size + 1, rfl, rfl, ⟨by rw [e1, e2]; exact o1.1⟩, ⟨by rw [e1, e2]; exact o1.2.1⟩, ⟨⟨by omega, by omega⟩⟩, ⟨by rw [e1, e2]; exact o1.2.2⟩⟩
          | exact ⟨w2.heap.size + 1, w2.heap.size, rfl, rfl, ⟨by rw [e1, e2]; exact o2.2.1⟩, ⟨by rw [e1, e2]; exact o2.1⟩, ⟨⟨by omega, by omega⟩⟩, ⟨by rw [e1, e2]; exact o2.2.2⟩⟩
  case rest =>
    obtain ⟨gw, gd, rfl, rfl, HW, HDa, GG, KC⟩ := hcut
    have HSc := Aside0.mk (SetsC_below (SetsC_below HS.out K2.out) KC.out)
    have K3 := Aside0.mk (K2.out.trans (KC.out.mono K2.out.size))
    have B3 := Aside0.mk ((KC.out.block _ (blk_lt B2.out)).trans B2.out)
    have X3 := Aside0.mk (Kd.C_below X2.out KC.out)
    obtain ⟨j, hj⟩ : ∃ j : Nat, j = min xs.length 60 := ⟨_, rfl⟩
    have M1 : (if (xs.length : Int) < 60 then (xs.length : Int) else 60) = (j : Int) := by split <;> omega
    have M2 : (min (xs.length : Int) 60) = (j : Int) := by omega
    have M3 : (if (60 : Int) < (xs.length : Int) then 60 else (xs.length : Int)) = (j : Int) := by split <;> omega
    have J1 : (j : Int) ≤ 60 := by omega
    have J2 : j ≤ cp := by have := HCP.out; omega
    have JX := Aside0.mk (show j ≤ xs.length by omega)
    obtain ⟨i50, hi50, hs50⟩ : ∃ i, Try.prog.info? 52 = some i ∧ i.size = 4 := Option.map_eq_some_iff.1 info52s
    have hsl := cut_to (P := Try.prog) 50 52 .i64 Try.underlying50 hi50 A xs.length cp (j : Int) (by omega) (by omega) HCP.out
    rw [Int.toNat_natCast] at hsl
    clear d0 d1 d2 lt2 hj hmk1 hmk2
    go_wp2_with fail
    clear hsl M1 M2 M3
    go_loopg [5, 50] j (fun q v5 v50 wr => ∃ (k : Nat) (l : List Int) (V : Option Addr) (v : Nat), v50 = .int .i64 k ∧ Aside0 (k + q = j) ∧ v5 = .slice V l.length v ∧ Aside0 (l.length ≤ v) ∧ Aside0 (Kd.C (Kd.int .u8) wr V l.length l) ∧ Aside0 (Obj3 l a nb nc 7) ∧ Aside0 (Bytes l) ∧ Aside0 (wr.heap[gw]? = some (.cells (encs (Value.int .u64) (pL l)).toArray 36 (0, 0))) ∧ Aside0 (wr.heap[gd]? = some (.cells (encs (Value.int .u8) (dX l)).toArray 5 (0, 0))) ∧ Aside0 (wr.heap[w.heap.size]? = some (.cells #[.int .i64 a, .int .i64 nb, .int .i64 nc] 23 (0, 0))) ∧ Aside0 (Below w.heap.size w wr))
    case atStart => exact ⟨0, r, X, x, rfl, ⟨by omega⟩, rfl, XD, X3, OO, BY, HW, HDa, B3, K3⟩
    case round =>
      obtain ⟨k, l, V, v, rfl, HKQ, rfl, VD, VC, O3, LB, RW, RD, BX, KB⟩ := hrel
      by_cases hlt : k < j
      case neg =>
        have hge : decide (k < j) = false := decide_eq_false hlt
        have hge2 : j ≤ k := by omega
        clear hlt
        go_wp2
        go_ret
        exact ⟨rfl, KB.out⟩
      have hgd : decide (k < j) = true := decide_eq_true hlt
      have hkx : k < xs.length := by have := JX.out; omega
      obtain ⟨ad, SB, sc, ea, s0, s1, s2, s3, h1, h2, h3, h4, h5, h6⟩ := sets_at (SetsC_below HS.out KB.out) k hkx
      obtain ⟨s, hs⟩ : ∃ s, s = xs[k] := ⟨_, rfl⟩
      rw [← hs] at s0 s1 s2 s3 h1 h2 h3 h4 h5 h6
      obtain ⟨sp, si, su, sx⟩ := s
      simp only at s0 s1 s2 s3 h1 h2 h3 h4 h5 h6
      cases ea
      have SXC := Aside0.mk h6
      have SXD := Aside0.mk h1
      have SXL := Aside0.mk h2
      have SXB := Aside0.mk h5
      have SU := Aside0.mk h4
      have LE := Aside0.mk (show l.length ≤ 140737488351232 by have := O3.out.lens.2.2; omega)
      have CLF := Aside0.mk (show bytes_Clone.f l = some l by unfold bytes_Clone.f; rw [if_pos (by have := O3.out.lens.2.2; omega)])
      have LSZ := Aside0.mk (show gw < wr.heap.size ∧ gd < wr.heap.size from ⟨blk_lt RW.out, blk_lt RD.out⟩)
      have hkj : (k : Int) ≤ 60 := by omega
      clear hs h1 h2 h4 h5 h6 hkx
      go_wp2_with fail
      refine (bytes_Clone.calls V v l _ _ (Kd.C_alloc VC.out _) VD.out CLF.out).mono ?_
      rintro e w4 ⟨y, rfl, ho, hb4⟩
      obtain ⟨Y, yc, rfl, hyc, hyC⟩ := Kd.R_reads ho
      have hbw : Below wr.heap.size wr w4 := ((Below.refl _ wr).alloc (Nat.le_refl _) _).trans (hb4.mono (by simp))
      have K4 := Aside0.mk (KB.out.trans (hbw.mono KB.out.size))
      have B4 := Aside0.mk ((hbw.block _ (blk_lt BX.out)).trans BX.out)
      have W4 := Aside0.mk ((hbw.block _ (blk_lt RW.out)).trans RW.out)
      have D4 := Aside0.mk ((hbw.block _ (blk_lt RD.out)).trans RD.out)
      have C4 := Aside0.mk (Kd.C_below VC.out hbw)
      have S4 := Aside0.mk (Kd.C_below SXC.out hbw)
      have Y4 := Aside0.mk hyC
      have YD := Aside0.mk hyc
      have X4 := Aside0.mk ((hb4.block wr.heap.size (by simp)).trans (World.alloc_heap_new wr (.cells #[.bool sp, .int .i64 si, .int .u64 (su : Int), .slice SB sx.length sc] 52)))
      have q0 : w4.cell? ⟨wr.heap.size, 0, none⟩ = some (.bool sp) := by rw [blk_cell X4.out]; rfl
      have q1 : w4.cell? ⟨wr.heap.size, 1, none⟩ = some (.int .i64 si) := by rw [blk_cell X4.out]; rfl
      have q2 : w4.cell? ⟨wr.heap.size, 2, none⟩ = some (.int .u64 (su : Int)) := by rw [blk_cell X4.out]; rfl
      have q3 : w4.cell? ⟨wr.heap.size, 3, none⟩ = some (.slice SB sx.length sc) := by rw [blk_cell X4.out]; rfl
      have LT4 := Aside0.mk (show gw < w4.heap.size ∧ gd < w4.heap.size from ⟨blk_lt W4.out, blk_lt D4.out⟩)
      clear ho hb4 hbw hyC hyc s0 s1 s2 s3
      cases sp
      case true =>
        by_cases hi : si < 0 ∨ si ≥ (nb : Int)
        case pos =>
          have SPE := Aside0.mk (SP_out O3.out si su hi)
          clear hi
          go_wp2_with fail
          refine (SetPtr_f C4.out VD.out LB.out LE.out su SPE.out).mono ?_
          rintro e w5 ⟨V5, v5, rfl, hv, hV, hb5⟩
          have K5 := Aside0.mk (K4.out.trans (hb5.mono K4.out.size))
          have B5 := Aside0.mk ((hb5.block _ (blk_lt B4.out)).trans B4.out)
          have W5 := Aside0.mk ((hb5.block _ (blk_lt W4.out)).trans W4.out)
          have D5 := Aside0.mk ((hb5.block _ (blk_lt D4.out)).trans D4.out)
          have C5 := Aside0.mk (Kd.C_below C4.out hb5)
          have Y5 := Aside0.mk (Kd.C_below Y4.out hb5)
          clear hv hV hb5 q0 q1 q2 q3
          go_wp2_with fail
          refine (equal_c C5.out VD.out Y5.out YD.out (equal_self l)).mono ?_
          rintro e w6 ⟨rfl, hb6⟩
          have K6 := Aside0.mk (K5.out.trans (hb6.mono K5.out.size))
          have B6 := Aside0.mk ((hb6.block _ (blk_lt B5.out)).trans B5.out)
          have W6 := Aside0.mk ((hb6.block _ (blk_lt W5.out)).trans W5.out)
          have D6 := Aside0.mk ((hb6.block _ (blk_lt D5.out)).trans D5.out)
          have C6 := Aside0.mk (Kd.C_below C5.out hb6)
          clear hb6
          go_wp2_with fail
          go_roundg (gk - 1)
          case measure => have := HKQ.out; omega
          case rel => exact ⟨k + 1, l, V, v, by go_num, ⟨by have := HKQ.out; omega⟩, rfl, VD, C6, O3, LB, W6, D6, B6, K6⟩
        obtain ⟨p, rfl⟩ := Int.eq_ofNat_of_zero_le (show 0 ≤ si by omega)
        have hpn : p < nb := by omega
        obtain ⟨l', o1, o3, o4, o5, o6, o2⟩ := SP_in O3.out LB.out p su hpn SU.out
        have O3' := Aside0.mk o3
        have LB' := Aside0.mk o4
        obtain ⟨L', hL'⟩ : ∃ L', L' = pL l' := ⟨_, rfl⟩
        obtain ⟨D', hD'⟩ : ∃ D', D' = dX l' := ⟨_, rfl⟩
        have PLE := Aside0.mk hL'.symm
        have DLE := Aside0.mk hD'.symm
        have LL := Aside0.mk (show L'.length = nb by rw [hL']; exact o3.lens.1)
        have DL := Aside0.mk (show D'.length = nc by rw [hD']; exact o3.lens.2.1)
        have N9 := Aside0.mk (show (pL l').take (999 : Int).toNat = L' by rw [← hL', List.take_of_length_le]; rw [LL.out]; have := NB.out; omega)
        have DAE := Aside0.mk (show DA l' = (D', 0) by unfold DA; rw [if_pos o3.obj, ← hD'])
        have LE' := Aside0.mk (show l'.length ≤ 140737488351232 by have := o3.lens.2.2; omega)
        rw [← hL'] at o5
        rw [← hD'] at o6
        have PO := Aside0.mk o5
        have DO := Aside0.mk o6
        have SPE := Aside0.mk o1
        clear hL' hD' o1 o2 o3 o4 o5 o6
        go_wp2_with fail
        refine (SetPtr_f C4.out VD.out LB.out LE.out su SPE.out).mono ?_
        rintro e w5 ⟨V5, v5, rfl, hv, hV, hb5⟩
        have K5 := Aside0.mk (K4.out.trans (hb5.mono K4.out.size))
        have B5 := Aside0.mk ((hb5.block _ (blk_lt B4.out)).trans B4.out)
        have W5 := Aside0.mk ((hb5.block _ (blk_lt W4.out)).trans W4.out)
        have D5 := Aside0.mk ((hb5.block _ (blk_lt D4.out)).trans D4.out)
        have X5 := Aside0.mk ((hb5.block _ (blk_lt X4.out)).trans X4.out)
        have C5 := Aside0.mk (Kd.C_below C4.out hb5)
        have S5 := Aside0.mk (Kd.C_below S4.out hb5)
        have Y5 := Aside0.mk (Kd.C_below Y4.out hb5)
        have HV := Aside0.mk hV
        have VD5 := Aside0.mk hv
        have LT5 := Aside0.mk hb5.size
        clear hv hV hb5 q0 q1 q2 q3
        go_wp2_with fail
        refine (equal_c C5.out VD.out Y5.out YD.out (equal_self l)).mono ?_
        rintro e w6 ⟨rfl, hb6⟩
        have K6 := Aside0.mk (K5.out.trans (hb6.mono K5.out.size))
        have B6 := Aside0.mk ((hb6.block _ (blk_lt B5.out)).trans B5.out)
        have W6 := Aside0.mk ((hb6.block _ (blk_lt W5.out)).trans W5.out)
        have D6 := Aside0.mk ((hb6.block _ (blk_lt D5.out)).trans D5.out)
        have X6 := Aside0.mk ((hb6.block _ (blk_lt X5.out)).trans X5.out)
        have S6 := Aside0.mk (Kd.C_below S5.out hb6)
        have KF := Aside0.mk (Kept.of_below hb6 (fun k => k < w4.heap.size))
        have q0 : w6.cell? ⟨wr.heap.size, 0, none⟩ = some (.bool true) := by rw [blk_cell X6.out]; rfl
        have q1 : w6.cell? ⟨wr.heap.size, 1, none⟩ = some (.int .i64 (p : Int)) := by rw [blk_cell X6.out]; rfl
        have q2 : w6.cell? ⟨wr.heap.size, 2, none⟩ = some (.int .u64 (su : Int)) := by rw [blk_cell X6.out]; rfl
        have q3 : w6.cell? ⟨wr.heap.size, 3, none⟩ = some (.slice SB sx.length sc) := by rw [blk_cell X6.out]; rfl
        have hne := GG.out
        clear hb6
        have g0 : decide ((p : Int) < 0) = false := decide_eq_false (by omega)
        have g1 : decide (p ≥ nb) = false := decide_eq_false (by omega)
        have g2 : decide ((p : Int) ≥ (nb : Int)) = false := decide_eq_false (by omega)
        have hpi : (p : Int) < (nb : Int) := by omega
        have hp0 : (0 : Int) ≤ (p : Int) := by omega
        have hold : w6.cell? ⟨gw, p, none⟩ = some (.int .u64 ((pL l)[p]'(by rw [O3.out.lens.1]; exact hpn))) := by
          rw [blk_cell W6.out p]
          simp [encs, O3.out.lens.1, hpn]
        have hfr : w6.frozen? ⟨gw, p, none⟩ = false := blk_frozen W6.out p
        obtain ⟨u0, hu0⟩ : ∃ u0, u0 = (pL l)[p]'(by rw [O3.out.lens.1]; exact hpn) := ⟨_, rfl⟩
        rw [← hu0] at hold
        clear hu0 hi hne
        go_wp2_with fail
        have C7 := Aside0.mk (HV.out _ (KF.out.setCell (p := ⟨gw, p, none⟩) (.inl LT4.out.1) (.int .u64 (su : Int))))
        have K7 := Aside0.mk (K6.out.setCell (p := ⟨gw, p, none⟩) (Nat.le_of_lt GG.out.1) (.int .u64 (su : Int)))
        have B7 := Aside0.mk ((Below.heap_setCell w6 ⟨gw, p, none⟩ (.int .u64 (su : Int)) w.heap.size (by have := GG.out.1; simp; omega)).trans B6.out)
        have hgne : gw ≠ gd := fun e => by have h1 := W6.out; rw [e, D6.out] at h1; simp at h1
        have W7 := Aside0.mk (show (w6.setCell ⟨gw, p, none⟩ (.int .u64 (su : Int))).heap[gw]? = some (.cells (encs (Value.int .u64) L').toArray 36 (0, 0)) by rw [blk_set W6.out p, encs_set, PO.out])
        have D7 := Aside0.mk (show (w6.setCell ⟨gw, p, none⟩ (.int .u64 (su : Int))).heap[gd]? = some (.cells (encs (Value.int .u8) D').toArray 5 (0, 0)) by rw [Below.heap_setCell _ _ _ _ hgne.symm, D6.out, DO.out])
        clear hold hfr q0 q1 q2 q3 g0 g1 g2 hgne hpi hp0
        have T9 := Aside0.mk (fun (w : World) (h : Kd.C (Kd.int .u8) w V5 l'.length l') => ptrs_c h VD5.out LB'.out LE'.out 999)
        rw [N9.out] at T9
        have T9' := Aside0.mk T9.out
        clear T9
        refine (parse3_c C7.out VD5.out LB'.out LE'.out O3'.out).mono ?_
        rintro e w8 ⟨rfl, hb8⟩
        have K8 := Aside0.mk (K7.out.trans (hb8.mono K7.out.size))
        have B8 := Aside0.mk ((hb8.block _ (blk_lt B7.out)).trans B7.out)
        have W8 := Aside0.mk ((hb8.block _ (blk_lt W7.out)).trans W7.out)
        have D8 := Aside0.mk ((hb8.block _ (blk_lt D7.out)).trans D7.out)
        have C8 := Aside0.mk (Kd.C_below C7.out hb8)
        have K8' := Aside0.mk (K8.out.alloc K8.out.size (.cells #[.int .i64 a, .int .i64 (nb : Int), .int .i64 (nc : Int)] 23))
        have B8' := Aside0.mk ((Below.heap_alloc w8 (.cells #[.int .i64 a, .int .i64 (nb : Int), .int .i64 (nc : Int)] 23) _ (blk_lt B8.out)).trans B8.out)
        have W8' := Aside0.mk ((Below.heap_alloc w8 (.cells #[.int .i64 a, .int .i64 (nb : Int), .int .i64 (nc : Int)] 23) _ (blk_lt W8.out)).trans W8.out)
        have D8' := Aside0.mk ((Below.heap_alloc w8 (.cells #[.int .i64 a, .int .i64 (nb : Int), .int .i64 (nc : Int)] 23) _ (blk_lt D8.out)).trans D8.out)
        have C8' := Aside0.mk (Kd.C_alloc C8.out (.cells #[.int .i64 a, .int .i64 (nb : Int), .int .i64 (nc : Int)] 23))
        have Z8 := Aside0.mk (World.alloc_heap_new w8 (.cells #[.int .i64 a, .int .i64 (nb : Int), .int .i64 (nc : Int)] 23))
        clear hb8
        go_wp2_with fail
        refine (Data_c C8'.out VD5.out LB'.out LE'.out DAE.out).mono ?_
        rintro e w9 ⟨P, pc, rfl, hp, hP, hb9⟩
        have K9 := Aside0.mk (K8'.out.trans (hb9.mono K8'.out.size))
        have B9 := Aside0.mk ((hb9.block _ (blk_lt B8'.out)).trans B8'.out)
        have W9 := Aside0.mk ((hb9.block _ (blk_lt W8'.out)).trans W8'.out)
        have D9 := Aside0.mk ((hb9.block _ (blk_lt D8'.out)).trans D8'.out)
        have C9 := Aside0.mk (Kd.C_below C8'.out hb9)
        have Z9 := Aside0.mk ((hb9.block _ (blk_lt Z8.out)).trans Z8.out)
        have P9 := Aside0.mk hP
        have PD := Aside0.mk hp
        clear hb9 hP hp
        go_wp2_with fail
        refine (T9'.out _ C9.out).mono ?_
        rintro e wa ⟨Q, qc, rfl, hp, hP, hba⟩
        have Ka := Aside0.mk (K9.out.trans (hba.mono K9.out.size))
        have Ba := Aside0.mk ((hba.block _ (blk_lt B9.out)).trans B9.out)
        have Wa := Aside0.mk ((hba.block _ (blk_lt W9.out)).trans W9.out)
        have Da := Aside0.mk ((hba.block _ (blk_lt D9.out)).trans D9.out)
        have Ca := Aside0.mk (Kd.C_below C9.out hba)
        have Za := Aside0.mk ((hba.block _ (blk_lt Z9.out)).trans Z9.out)
        have Pa := Aside0.mk (Kd.C_below P9.out hba)
        have Qa := Aside0.mk hP
        have QD := Aside0.mk hp
        have d0 : wa.cell? ⟨w.heap.size, 0, none⟩ = some (.int .i64 a) := by rw [blk_cell Ba.out]; rfl
        have d1 : wa.cell? ⟨w.heap.size, 1, none⟩ = some (.int .i64 nb) := by rw [blk_cell Ba.out]; rfl
        have d2 : wa.cell? ⟨w.heap.size, 2, none⟩ = some (.int .i64 nc) := by rw [blk_cell Ba.out]; rfl
        have z0 : wa.cell? ⟨w8.heap.size, 0, none⟩ = some (.int .i64 a) := by rw [blk_cell Za.out]; rfl
        have z1 : wa.cell? ⟨w8.heap.size, 1, none⟩ = some (.int .i64 nb) := by rw [blk_cell Za.out]; rfl
        have z2 : wa.cell? ⟨w8.heap.size, 2, none⟩ = some (.int .i64 nc) := by rw [blk_cell Za.out]; rfl
        have QE := equal_c (A2 := some ⟨gd, 0, none⟩) (c2 := nc) Pa.out PD.out (x := D') (blk_C (enc := Value.int .u8) (h1 := fun _ => rfl) (o := 0) Da.out (by rw [List.drop_zero, List.take_of_length_le]; rw [encs_length]; exact Nat.le_refl _) (by rw [DL.out]; have := NC.out; omega)) (by rw [DL.out]; exact Nat.le_refl _) (equal_self D')
        rw [DL.out] at QE
        have QEE := Aside0.mk QE
        have dl := DL.out
        have ll := LL.out
        clear hba hP hp QE
        go_wp2_with fail
        refine QEE.out.mono ?_
        rintro e wb ⟨rfl, hbb⟩
        have Kb := Aside0.mk (Ka.out.trans (hbb.mono Ka.out.size))
        have Bb := Aside0.mk ((hbb.block _ (blk_lt Ba.out)).trans Ba.out)
        have Wb := Aside0.mk ((hbb.block _ (blk_lt Wa.out)).trans Wa.out)
        have Db := Aside0.mk ((hbb.block _ (blk_lt Da.out)).trans Da.out)
        have Cb := Aside0.mk (Kd.C_below Ca.out hbb)
        have Qb := Aside0.mk (Kd.C_below Qa.out hbb)
        have QF := eq64_c (A2 := some ⟨gw, 0, none⟩) (c2 := nb) Qb.out QD.out (blk_C (enc := Value.int .u64) (h1 := fun _ => rfl) (o := 0) Wb.out (by rw [List.drop_zero, List.take_of_length_le]; rw [encs_length]; exact Nat.le_refl _) (by rw [LL.out]; have := NB.out; omega)) (by rw [LL.out]; exact Nat.le_refl _) (by rw [LL.out]; have := NB.out; omega)
        rw [LL.out] at QF
        have QFF := Aside0.mk QF
        clear hbb d0 d1 d2 z0 z1 z2 QF
        go_wp2_with fail
        refine QFF.out.mono ?_
        rintro e wc1 ⟨rfl, hbc⟩
        have Kc := Aside0.mk (Kb.out.trans (hbc.mono Kb.out.size))
        have Bc := Aside0.mk ((hbc.block _ (blk_lt Bb.out)).trans Bb.out)
        have Wc := Aside0.mk ((hbc.block _ (blk_lt Wb.out)).trans Wb.out)
        have Dc := Aside0.mk ((hbc.block _ (blk_lt Db.out)).trans Db.out)
        have Cc := Aside0.mk (Kd.C_below Cb.out hbc)
        have PE := PLE.out
        have DE := DLE.out
        clear hbc dl ll
        go_wp2_with fail
        go_roundg (gk - 1)
        case measure => have := HKQ.out; omega
        case rel => exact ⟨k + 1, l', V5, v5, by go_num, ⟨by have := HKQ.out; omega⟩, rfl, VD5, Cc, O3', LB', ⟨by rw [PE]; exact Wc.out⟩, ⟨by rw [DE]; exact Dc.out⟩, Bc, Kc⟩
      case false =>
        by_cases hi : si < 0 ∨ si > (nc : Int) ∨ (sx.length : Int) > (nc : Int) - si
        case pos =>
          have SPE := Aside0.mk (SD_out O3.out si hi)
          clear hi
          go_wp2_with fail
          refine (SetData_f C4.out VD.out LB.out LE.out S4.out SXD.out SXL.out SPE.out).mono ?_
          rintro e w5 ⟨V5, v5, rfl, hv, hV, hb5⟩
          have K5 := Aside0.mk (K4.out.trans (hb5.mono K4.out.size))
          have B5 := Aside0.mk ((hb5.block _ (blk_lt B4.out)).trans B4.out)
          have W5 := Aside0.mk ((hb5.block _ (blk_lt W4.out)).trans W4.out)
          have D5 := Aside0.mk ((hb5.block _ (blk_lt D4.out)).trans D4.out)
          have C5 := Aside0.mk (Kd.C_below C4.out hb5)
          have Y5 := Aside0.mk (Kd.C_below Y4.out hb5)
          clear hv hV hb5 q0 q1 q2 q3
          go_wp2_with fail
          refine (equal_c C5.out VD.out Y5.out YD.out (equal_self l)).mono ?_
          rintro e w6 ⟨rfl, hb6⟩
          have K6 := Aside0.mk (K5.out.trans (hb6.mono K5.out.size))
          have B6 := Aside0.mk ((hb6.block _ (blk_lt B5.out)).trans B5.out)
          have W6 := Aside0.mk ((hb6.block _ (blk_lt W5.out)).trans W5.out)
          have D6 := Aside0.mk ((hb6.block _ (blk_lt D5.out)).trans D5.out)
          have C6 := Aside0.mk (Kd.C_below C5.out hb6)
          clear hb6
          go_wp2_with fail
          go_roundg (gk - 1)
          case measure => have := HKQ.out; omega
          case rel => exact ⟨k + 1, l, V, v, by go_num, ⟨by have := HKQ.out; omega⟩, rfl, VD, C6, O3, LB, W6, D6, B6, K6⟩
        obtain ⟨p, rfl⟩ := Int.eq_ofNat_of_zero_le (show 0 ≤ si by omega)
        have hpn : p + sx.length ≤ nc := by omega
        obtain ⟨l', o1, o3, o4, o5, o6, o2⟩ := SD_in O3.out LB.out SXB.out p hpn
        have O3' := Aside0.mk o3
        have LB' := Aside0.mk o4
        obtain ⟨L', hL'⟩ : ∃ L', L' = pL l' := ⟨_, rfl⟩
        obtain ⟨D', hD'⟩ : ∃ D', D' = dX l' := ⟨_, rfl⟩
        have PLE := Aside0.mk hL'.symm
        have DLE := Aside0.mk hD'.symm
        have LL := Aside0.mk (show L'.length = nb by rw [hL']; exact o3.lens.1)
        have DL := Aside0.mk (show D'.length = nc by rw [hD']; exact o3.lens.2.1)
        have N9 := Aside0.mk (show (pL l').take (999 : Int).toNat = L' by rw [← hL', List.take_of_length_le]; rw [LL.out]; have := NB.out; omega)
        have DAE := Aside0.mk (show DA l' = (D', 0) by unfold DA; rw [if_pos o3.obj, ← hD'])
        have LE' := Aside0.mk (show l'.length ≤ 140737488351232 by have := o3.lens.2.2; omega)
        rw [← hL'] at o5
        rw [← hD'] at o6
        have PO := Aside0.mk o5
        have DO := Aside0.mk o6
        have SPE := Aside0.mk o1
        clear hL' hD' o1 o2 o3 o4 o5 o6
        go_wp2_with fail
        refine (SetData_f C4.out VD.out LB.out LE.out S4.out SXD.out SXL.out SPE.out).mono ?_
        rintro e w5 ⟨V5, v5, rfl, hv, hV, hb5⟩
        have K5 := Aside0.mk (K4.out.trans (hb5.mono K4.out.size))
        have B5 := Aside0.mk ((hb5.block _ (blk_lt B4.out)).trans B4.out)
        have W5 := Aside0.mk ((hb5.block _ (blk_lt W4.out)).trans W4.out)
        have D5 := Aside0.mk ((hb5.block _ (blk_lt D4.out)).trans D4.out)
        have X5 := Aside0.mk ((hb5.block _ (blk_lt X4.out)).trans X4.out)
        have C5 := Aside0.mk (Kd.C_below C4.out hb5)
        have S5 := Aside0.mk (Kd.C_below S4.out hb5)
        have Y5 := Aside0.mk (Kd.C_below Y4.out hb5)
        have HV := Aside0.mk hV
        have VD5 := Aside0.mk hv
        have LT5 := Aside0.mk hb5.size
        clear hv hV hb5 q0 q1 q2 q3
        go_wp2_with fail
        refine (equal_c C5.out VD.out Y5.out YD.out (equal_self l)).mono ?_
        rintro e w6 ⟨rfl, hb6⟩
        have K6 := Aside0.mk (K5.out.trans (hb6.mono K5.out.size))
        have B6 := Aside0.mk ((hb6.block _ (blk_lt B5.out)).trans B5.out)
        have W6 := Aside0.mk ((hb6.block _ (blk_lt W5.out)).trans W5.out)
        have D6 := Aside0.mk ((hb6.block _ (blk_lt D5.out)).trans D5.out)
        have X6 := Aside0.mk ((hb6.block _ (blk_lt X5.out)).trans X5.out)
        have S6 := Aside0.mk (Kd.C_below S5.out hb6)
        have KF := Aside0.mk (Kept.of_below hb6 (fun k => k < w4.heap.size))
        have q0 : w6.cell? ⟨wr.heap.size, 0, none⟩ = some (.bool false) := by rw [blk_cell X6.out]; rfl
        have q1 : w6.cell? ⟨wr.heap.size, 1, none⟩ = some (.int .i64 (p : Int)) := by rw [blk_cell X6.out]; rfl
        have q2 : w6.cell? ⟨wr.heap.size, 2, none⟩ = some (.int .u64 (su : Int)) := by rw [blk_cell X6.out]; rfl
        have q3 : w6.cell? ⟨wr.heap.size, 3, none⟩ = some (.slice SB sx.length sc) := by rw [blk_cell X6.out]; rfl
        have hne := GG.out
        clear hb6
        have ncb := NC.out
        have hpc : p ≤ nc := by omega
        have g0 : decide ((p : Int) < 0) = false := decide_eq_false (by omega)
        have g1 : decide (p > nc) = false := decide_eq_false (by omega)
        have g2 : decide ((p : Int) > (nc : Int)) = false := decide_eq_false (by omega)
        have g3 : decide (nc < p) = false := decide_eq_false (by omega)
        have g4 : decide ((sx.length : Int) > (nc : Int) - (p : Int)) = false := decide_eq_false (by omega)
        obtain ⟨i5, hi5, hz0, hz1, hz2⟩ := info_parts info5z
        obtain ⟨B2, hB2⟩ : ∃ B2 : Option Addr, B2 = if nc = p then some ⟨gd, 0, none⟩ else (some (⟨gd, 0, none⟩ : Addr)).map (·.add (p * 1)) := ⟨_, rfl⟩
        obtain ⟨rr, hrr⟩ : ∃ rr, rr = nc - p := ⟨_, rfl⟩
        have hsl : ∀ W : World, (Instr.slice 24 (.slice (some ⟨gd, 0, none⟩) nc nc) (some (.int .i64 (p : Int))) none none).run Try.prog W = .ok (.slice B2 rr rr) W := by
          intro W
          have := cut_from (P := Try.prog) 24 5 .i64 Try.underlying24 hi5 1 hz1 (some ⟨gd, 0, none⟩) nc nc (p : Int) (by omega) (by omega) W
          rw [this, hB2, hrr, Int.toNat_natCast]
        obtain ⟨cs, hcs⟩ : ∃ cs, cs = encs (Value.int .u8) sx := ⟨_, rfl⟩
        obtain ⟨cur, hcur⟩ : ∃ cur, cur = encs (Value.int .u8) (dX l) := ⟨_, rfl⟩
        have hcl : cs.length = sx.length := by rw [hcs, encs_length]
        have hdl := O3.out.lens.2.1
        have A1 := Aside0.mk (show cs.length = Nat.min sx.length rr by rw [hcl, hrr]; exact (Nat.min_eq_left (by omega)).symm)
        have A3 := Aside0.mk (show ∀ W, Kd.C (Kd.int .u8) W SB sx.length sx → 0 < cs.length → B2 = some ⟨gd, p, none⟩ ∧ ∃ ad, SB = some ad ∧ ∀ j v, cs[j]? = some v → W.cell? (ad.add j) = some v by
          intro W hW h0
          obtain ⟨ad, ha, hcell⟩ := C_cells (enc := Value.int .u8) (h1 := fun _ => rfl) hW sx.length (Nat.le_refl _) (by omega)
          rw [List.take_length, ← hcs] at hcell
          refine ⟨?_, ad, ha, hcell⟩
          rw [hB2, if_neg (by omega), Option.map_some, add_at, Nat.mul_one, Nat.zero_add])
        have A4 := Aside0.mk (show p + cs.length ≤ cur.length by rw [hcl, hcur, encs_length, hdl]; exact hpn)
        have A5 := Aside0.mk (show ∀ v ∈ cs, v.oneCell' = true by rw [hcs]; exact encs_one sx (fun _ => rfl))
        have A6 := Aside0.mk (show splice cur p cs = encs (Value.int .u8) D' by
          have h1 := splice_take (enc := Value.int .u8) (cur := cur) (l := dX l) (x := sx) (o := p) (by rw [hcur, List.take_of_length_le]; rw [encs_length]; exact Nat.le_refl _) (by omega) (by rw [hcur, encs_length]; exact Nat.le_refl _)
          rw [← hcs] at h1
          rw [List.take_of_length_le (by rw [length_splice _ _ _ A4.out, hcur, encs_length]; exact Nat.le_refl _)] at h1
          rw [h1, DO.out])
        have H6 := Aside0.mk (show w6.heap[gd]? = some (.cells cur.toArray 5 (0, 0)) by rw [hcur]; exact D6.out)
        have H6' := Aside0.mk (show w6.drew.heap[gd]? = some (.cells cur.toArray 5 (0, 0)) by rw [hcur]; exact D6.out)
        have S6' := Aside0.mk (Kd.C_drew S6.out)
        clear hi hne hcs hcur hcl hdl hB2 hrr
        go_wp2_with fail
        go_region_law (refine step_copy_only rfl (.tmp 133) (.tmp 135) 24 24 rfl 5 Try.underlying24 info5s B2 SB rr rr sx.length sc rfl rfl gd p cur 5 H6'.out cs A1.out (A3.out _ S6'.out) A4.out A5.out ?_; intro w7 hg7 hb7)
        all_goals
          go_wp2_with fail
          have C7 := Aside0.mk (HV.out _ (hb7.out.kept (Kept.drew KF.out) (.inl LT4.out.2)))
          have K7 := Aside0.mk (hb7.out.below (below_drew K6.out) (Nat.le_of_lt GG.out.2))
          have B7 := Aside0.mk ((hb7.out.block w.heap.size (by have := GG.out.2; omega)).trans B6.out)
          have hgne : gw ≠ gd := fun e => by have h1 := W6.out; rw [e, D6.out] at h1; simp at h1
          have W7 := Aside0.mk (show w7.heap[gw]? = some (.cells (encs (Value.int .u64) L').toArray 36 (0, 0)) from ((hb7.out.block gw hgne).trans W6.out).trans (by rw [PO.out]))
          have D7 := Aside0.mk (show w7.heap[gd]? = some (.cells (encs (Value.int .u8) D').toArray 5 (0, 0)) from hg7.out.trans (by rw [A6.out]))
          clear q0 q1 q2 q3 g0 g1 g2 g3 g4 hgne hpc hpn hsl
          have T9 := Aside0.mk (fun (w : World) (h : Kd.C (Kd.int .u8) w V5 l'.length l') => ptrs_c h VD5.out LB'.out LE'.out 999)
          rw [N9.out] at T9
          have T9' := Aside0.mk T9.out
          clear T9
          refine (parse3_c C7.out VD5.out LB'.out LE'.out O3'.out).mono ?_
          rintro e w8 ⟨rfl, hb8⟩
          have K8 := Aside0.mk (K7.out.trans (hb8.mono K7.out.size))
          have B8 := Aside0.mk ((hb8.block _ (blk_lt B7.out)).trans B7.out)
          have W8 := Aside0.mk ((hb8.block _ (blk_lt W7.out)).trans W7.out)
          have D8 := Aside0.mk ((hb8.block _ (blk_lt D7.out)).trans D7.out)
          have C8 := Aside0.mk (Kd.C_below C7.out hb8)
          have K8' := Aside0.mk (K8.out.alloc K8.out.size (.cells #[.int .i64 a, .int .i64 (nb : Int), .int .i64 (nc : Int)] 23))
          have B8' := Aside0.mk ((Below.heap_alloc w8 (.cells #[.int .i64 a, .int .i64 (nb : Int), .int .i64 (nc : Int)] 23) _ (blk_lt B8.out)).trans B8.out)
          have W8' := Aside0.mk ((Below.heap_alloc w8 (.cells #[.int .i64 a, .int .i64 (nb : Int), .int .i64 (nc : Int)] 23) _ (blk_lt W8.out)).trans W8.out)
          have D8' := Aside0.mk ((Below.heap_alloc w8 (.cells #[.int .i64 a, .int .i64 (nb : Int), .int .i64 (nc : Int)] 23) _ (blk_lt D8.out)).trans D8.out)
          have C8' := Aside0.mk (Kd.C_alloc C8.out (.cells #[.int .i64 a, .int .i64 (nb : Int), .int .i64 (nc : Int)] 23))
          have Z8 := Aside0.mk (World.alloc_heap_new w8 (.cells #[.int .i64 a, .int .i64 (nb : Int), .int .i64 (nc : Int)] 23))
          clear hb8
          go_wp2_with fail
          refine (Data_c C8'.out VD5.out LB'.out LE'.out DAE.out).mono ?_
          rintro e w9 ⟨P, pc, rfl, hp, hP, hb9⟩
          have K9 := Aside0.mk (K8'.out.trans (hb9.mono K8'.out.size))
          have B9 := Aside0.mk ((hb9.block _ (blk_lt B8'.out)).trans B8'.out)
          have W9 := Aside0.mk ((hb9.block _ (blk_lt W8'.out)).trans W8'.out)
          have D9 := Aside0.mk ((hb9.block _ (blk_lt D8'.out)).trans D8'.out)
          have C9 := Aside0.mk (Kd.C_below C8'.out hb9)
          have Z9 := Aside0.mk ((hb9.block _ (blk_lt Z8.out)).trans Z8.out)
          have P9 := Aside0.mk hP
          have PD := Aside0.mk hp
          clear hb9 hP hp
          go_wp2_with fail
          refine (T9'.out _ C9.out).mono ?_
          rintro e wa ⟨Q, qc, rfl, hp, hP, hba⟩
          have Ka := Aside0.mk (K9.out.trans (hba.mono K9.out.size))
          have Ba := Aside0.mk ((hba.block _ (blk_lt B9.out)).trans B9.out)
          have Wa := Aside0.mk ((hba.block _ (blk_lt W9.out)).trans W9.out)
          have Da := Aside0.mk ((hba.block _ (blk_lt D9.out)).trans D9.out)
          have Ca := Aside0.mk (Kd.C_below C9.out hba)
          have Za := Aside0.mk ((hba.block _ (blk_lt Z9.out)).trans Z9.out)
          have Pa := Aside0.mk (Kd.C_below P9.out hba)
          have Qa := Aside0.mk hP
          have QD := Aside0.mk hp
          have d0 : wa.cell? ⟨w.heap.size, 0, none⟩ = some (.int .i64 a) := by rw [blk_cell Ba.out]; rfl
          have d1 : wa.cell? ⟨w.heap.size, 1, none⟩ = some (.int .i64 nb) := by rw [blk_cell Ba.out]; rfl
          have d2 : wa.cell? ⟨w.heap.size, 2, none⟩ = some (.int .i64 nc) := by rw [blk_cell Ba.out]; rfl
          have z0 : wa.cell? ⟨w8.heap.size, 0, none⟩ = some (.int .i64 a) := by rw [blk_cell Za.out]; rfl
          have z1 : wa.cell? ⟨w8.heap.size, 1, none⟩ = some (.int .i64 nb) := by rw [blk_cell Za.out]; rfl
          have z2 : wa.cell? ⟨w8.heap.size, 2, none⟩ = some (.int .i64 nc) := by rw [blk_cell Za.out]; rfl
          have QE := equal_c (A2 := some ⟨gd, 0, none⟩) (c2 := nc) Pa.out PD.out (x := D') (blk_C (enc := Value.int .u8) (h1 := fun _ => rfl) (o := 0) Da.out (by rw [List.drop_zero, List.take_of_length_le]; rw [encs_length]; exact Nat.le_refl _) (by rw [DL.out]; have := NC.out; omega)) (by rw [DL.out]; exact Nat.le_refl _) (equal_self D')
          rw [DL.out] at QE
          have QEE := Aside0.mk QE
          have dl := DL.out
          have ll := LL.out
          clear hba hP hp QE
          go_wp2_with fail
          refine QEE.out.mono ?_
          rintro e wb ⟨rfl, hbb⟩
          have Kb := Aside0.mk (Ka.out.trans (hbb.mono Ka.out.size))
          have Bb := Aside0.mk ((hbb.block _ (blk_lt Ba.out)).trans Ba.out)
          have Wb := Aside0.mk ((hbb.block _ (blk_lt Wa.out)).trans Wa.out)
          have Db := Aside0.mk ((hbb.block _ (blk_lt Da.out)).trans Da.out)
          have Cb := Aside0.mk (Kd.C_below Ca.out hbb)
          have Qb := Aside0.mk (Kd.C_below Qa.out hbb)
          have QF := eq64_c (A2 := some ⟨gw, 0, none⟩) (c2 := nb) Qb.out QD.out (blk_C (enc := Value.int .u64) (h1 := fun _ => rfl) (o := 0) Wb.out (by rw [List.drop_zero, List.take_of_length_le]; rw [encs_length]; exact Nat.le_refl _) (by rw [LL.out]; have := NB.out; omega)) (by rw [LL.out]; exact Nat.le_refl _) (by rw [LL.out]; have := NB.out; omega)
          rw [LL.out] at QF
          have QFF := Aside0.mk QF
          clear hbb d0 d1 d2 z0 z1 z2 QF
          go_wp2_with fail
          refine QFF.out.mono ?_
          rintro e wc1 ⟨rfl, hbc⟩
          have Kc := Aside0.mk (Kb.out.trans (hbc.mono Kb.out.size))
          have Bc := Aside0.mk ((hbc.block _ (blk_lt Bb.out)).trans Bb.out)
          have Wc := Aside0.mk ((hbc.block _ (blk_lt Wb.out)).trans Wb.out)
          have Dc := Aside0.mk ((hbc.block _ (blk_lt Db.out)).trans Db.out)
          have Cc := Aside0.mk (Kd.C_below Cb.out hbc)
          have PE := PLE.out
          have DE := DLE.out
          clear hbc dl ll
          go_wp2_with fail
          go_roundg (gk - 1)
          case measure => have := HKQ.out; omega
          case rel => exact ⟨k + 1, l', V5, v5, by go_num, ⟨by have := HKQ.out; omega⟩, rfl, VD5, Cc, O3', LB', ⟨by rw [PE]; exact Wc.out⟩, ⟨by rw [DE]; exact Dc.out⟩, Bc, Kc⟩
end Go.Proofs.Ytckdnkiacnonkaa.Pure
