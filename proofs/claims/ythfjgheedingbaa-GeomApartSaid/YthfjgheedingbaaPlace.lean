/- The law's closure place: bytes are laid into the map; walked. -/
import Derived.Test.YthfjgheedingbaaUsed
namespace Go.Proofs.Ythfjgheedingbaa.Pure
open Go.RowKit Go.Proofs.Ythfjgheedingbaa Go.Proofs.Ythfjgheedingbaa.PAll Go.Proofs.Ythfjgheedingbaa.Mem Go.Proofs.YthfjgheedingbaaW.PrintWords Go.Proofs.YthfjgheedingbaaW.PrintLast Go.Proofs.YthfjgheedingbaaW.PrintMore
set_option linter.unusedVariables false
set_option linter.unusedSimpArgs false

def laid (M : Nat → Bool) (A m : Nat) : Nat → Bool := fun B => M B || (decide (A ≤ B) && decide (B < A + m))
theorem laid_zero (M : Nat → Bool) (A : Nat) : laid M A 0 = M := by
  funext B
  unfold laid
  rw [show (decide (A ≤ B) && decide (B < A + 0)) = false by simp]
  simp
theorem laid_succ (M : Nat → Bool) (A m : Nat) : (fun B => laid M A m B || B == A + m) = laid M A (m + 1) := by
  funext B
  unfold laid
  cases M B
  · rw [Bool.false_or, Bool.false_or, Bool.eq_iff_iff]
    simp
    omega
  · simp
theorem laid_no {M : Nat → Bool} {A m : Nat} (h : M (A + m) = false) : laid M A m (A + m) = false := by
  unfold laid
  rw [h]
  simp
theorem addr_x {bk o k : Nat} {x : Int} (ho : o < 256) (hk : k < 1024) (hx : x = ((bk + (o + k) / 256 : Nat) : Int)) (hb : x < 3000) : wrap64 ((bk : Int) + wrap64 ((wrap64 ((o : Int) + k)).tdiv 256)) = x := by
  rw [hx, show wrap64 ((o : Int) + k) = ((o + k : Nat) : Int) by unfold wrap64; omega, Int.tdiv_eq_ediv_of_nonneg (by omega)]
  unfold wrap64
  omega
theorem addr_y {o k : Nat} (ho : o < 256) (hk : k < 1024) : (wrap64 ((o : Int) + k)).tmod 256 = (((o + k) % 256 : Nat) : Int) := by
  rw [show wrap64 ((o : Int) + k) = ((o + k : Nat) : Int) by unfold wrap64; omega, Int.tmod_eq_emod_of_nonneg (by omega)]
  omega
theorem addr_div (bk o k : Nat) : (bk * 256 + o + k) / 256 = bk + (o + k) / 256 := by omega
theorem addr_mod (bk o k : Nat) : (bk * 256 + o + k) % 256 = (o + k) % 256 := by omega
theorem addr_lt {bk o k : Nat} {x a : Int} (ho : o < 256) (hk : k < 1024) (hx : x = ((bk + (o + k) / 256 : Nat) : Int)) (hb : x < 3000) : bk * 256 + o + k < 1099511627776 := by omega
set_option maxRecDepth 100000 in
set_option maxHeartbeats 16000000 in
theorem place_c {w : World} {g5 gB gM : Nat} {a b c d p1 p2 p3 p4 p5 p6 : Int} (hO : geom_Of.f a b c d = some (p1, p2, p3, p4, p5, p6, 0)) (h5 : w.heap[g5]? = some (.cells (quad a b c d) 23 (0, 0))) (hB : w.heap[gB]? = some (.cells #[.map (some gM)] 36 (0, 0)))
    {M : Nat → Bool} {n : Nat} (hU : Used w gM M n) (bk o m : Nat) (ar : Int) (ho : o < 256) (hm : m ≤ 1024) (hn : n ≤ 10000)
    (hin : ∀ i, i < m → ((bk + (o + i) / 256 : Nat) : Int) < a ∧ ((geom_Where.ar (startsL p1 p2 p3 p4 p5 p6) ((bk + (o + i) / 256 : Nat) : Int) 8 : Nat) : Int) = ar) (hfree : ∀ i, i < m → M (bk * 256 + o + i) = false) :
    Calls Try.prog 14 #[.int .i64 bk, .int .i64 o, .int .i64 m, .int .i64 ar, .pointer (some ⟨g5, 0, none⟩), .pointer (some ⟨gB, 0, none⟩)] w fun e w' => e = .returned (.bool true) ∧ Used w' gM (laid M (bk * 256 + o) m) (n + m) ∧ Fr (· = gM) w w' := by
  have hu23 := Try.underlying23
  have HO := Aside0.mk hO
  have G5 := Aside0.mk h5
  have GB := Aside0.mk hB
  have UU := Aside0.mk hU
  have HI := Aside0.mk hin
  have HF := Aside0.mk hfree
  have SZ := Aside0.mk (used_lt hU)
  have HB := Aside0.mk (show m ≤ 1024 ∧ o < 256 ∧ n ≤ 10000 from ⟨hm, ho, hn⟩)
  have U := Aside0.mk (up_of (of_ok hO rfl))
  have NE := Aside0.mk (show g5 ≠ gM ∧ gB ≠ gM from by
    obtain ⟨D, ⟨es, cl, q, _⟩, _⟩ := hU
    refine ⟨fun e => ?_, fun e => ?_⟩
    · rw [e, q] at h5; cases h5
    · rw [e, q] at hB; cases hB)
  clear hO h5 hB hU hin hfree hm ho hn
  go_enter Try.func14, Try.ntmps14
  go_wp2_with fail
  go_loopg [17] m (fun q v17 w' => ∃ k : Nat, v17 = .int .i64 (k : Int) ∧ Aside0 (k + q = m) ∧ Aside0 (Used w' gM (laid M (bk * 256 + o) k) (n + k)) ∧ Aside0 (Fr (· = gM) w w'))
  case atStart => exact ⟨0, rfl, ⟨by omega⟩, ⟨by rw [laid_zero]; exact UU.out⟩, ⟨Fr.refl _ _⟩⟩
  case round =>
    clear UU
    obtain ⟨k, rfl, HJ, UU, FF⟩ := hrel
    by_cases hlt : k < m
    case pos =>
      have hgd : decide ((k : Int) < (m : Int)) = true := decide_eq_true (by omega)
      have hgd2 : decide (k < m) = true := decide_eq_true hlt
      have HN := Aside0.mk (show k + 1 + (gk - 1) = m from by have := HJ.out; omega)
      have HM := Aside0.mk (show gk - 1 < gk from by have := HJ.out; omega)
      obtain ⟨A, hA⟩ : ∃ A, A = bk * 256 + o + k := ⟨_, rfl⟩
      obtain ⟨X, hX⟩ : ∃ X : Int, X = ((A / 256 : Nat) : Int) := ⟨_, rfl⟩
      obtain ⟨Y, hY⟩ : ∃ Y : Int, Y = ((A % 256 : Nat) : Int) := ⟨_, rfl⟩
      have hka : (Value.agg #[.int .i64 X, .int .i64 Y]) = kyA A := by rw [hX, hY]; rfl
      obtain ⟨hi1, hi2⟩ := HI.out k hlt
      have hk1 : k < 1024 := Nat.lt_of_lt_of_le hlt HB.out.1
      have hXX : X = ((bk + (o + k) / 256 : Nat) : Int) := by rw [hX, hA, addr_div]
      rw [← hXX] at hi1 hi2
      have hx3 : X < 3000 := Int.lt_of_lt_of_le hi1 U.out.h8
      have hx0 : 0 ≤ X := by rw [hX]; exact Int.natCast_nonneg _
      have hAb : A < 1099511627776 := by rw [hA]; exact addr_lt (a := a) HB.out.2.1 hk1 hXX hx3
      have hf := HF.out k hlt
      rw [← hA] at hf
      have hU1 : laid M (bk * 256 + o) k A = false := by rw [hA] at hf ⊢; exact laid_no hf
      have hX1 : wrap64 ((bk : Int) + wrap64 ((wrap64 ((o : Int) + k)).tdiv 256)) = X := addr_x HB.out.2.1 hk1 hXX hx3
      have hY1 : (wrap64 ((o : Int) + k)).tmod 256 = Y := by rw [hY, hA, addr_mod]; exact addr_y HB.out.2.1 hk1
      have HW := Aside0.mk (where_in HO.out X hx0 hi1)
      rw [hi2] at HW
      obtain ⟨z2, hz2⟩ : ∃ z, z = (cntL p1 p2 p3 p4 p5 p6 a X).getD (geom_Where.ar (startsL p1 p2 p3 p4 p5 p6) X 8) 0 := ⟨_, rfl⟩
      rw [← hz2] at HW
      have HU1 := Aside0.mk hU1
      have HKA := Aside0.mk hka
      have HAb := Aside0.mk hAb
      have HAA := Aside0.mk hA
      have Hn := Aside0.mk (show n + k < 1000000 from by have := HB.out.2.2; clear hz2 hX hY hka hi1 hi2 hXX hx3 hx0 hAb hf hU1 hX1 hY1 hA; omega)
      have HK1 := Aside0.mk hk1
      clear hz2 hX hY hka hi1 hi2 hXX hx3 hx0 hAb hf hU1 hlt hA hk1
      have hb0 := (Below.refl wr.heap.size wr).alloc (Nat.le_refl _) (.cells #[.int .i64 X, .int .i64 Y] 37)
      have N5 := Aside0.mk ((FF.out.block g5 (blk_lt G5.out) NE.out.1).trans G5.out)
      have NB := Aside0.mk ((FF.out.block gB (blk_lt GB.out) NE.out.2).trans GB.out)
      have M5 := Aside0.mk ((hb0.block _ (blk_lt N5.out)).trans N5.out)
      have MB := Aside0.mk ((hb0.block _ (blk_lt NB.out)).trans NB.out)
      have U1 := Aside0.mk (used_kept UU.out (hb0.block _ (used_lt UU.out)))
      have NW := Aside0.mk (heap_new wr (.cells #[.int .i64 X, .int .i64 Y] 37))
      have F1 := Aside0.mk (FF.out.trans (Fr.of_below (F := (· = gM)) hb0) (fun i h => .inl h))
      clear hb0
      obtain ⟨m0, m1, m2, m3⟩ := quad_cells M5.out
      go_wp2_with fail
      clear m0 m1 m2 m3
      refine (geom_Where.calls a b c d X _ _ _ _ HW.out).mono ?_
      rintro e w3 ⟨rfl, hb⟩
      clear hX1 hY1
      obtain ⟨g12, hg12⟩ : ∃ g, g = wr.heap.size := ⟨_, rfl⟩
      rw [← hg12] at NW ⊢
      have R5 := Aside0.mk ((hb.block _ (blk_lt M5.out)).trans M5.out)
      have RB := Aside0.mk ((hb.block _ (blk_lt MB.out)).trans MB.out)
      have U3 := Aside0.mk (used_kept U1.out (hb.block _ (used_lt U1.out)))
      have F3 := Aside0.mk (F1.out.trans (Fr.of_below (F := (· = gM)) hb) (fun i h => .inl h))
      have N12 := Aside0.mk ((hb.block _ (blk_lt NW.out)).trans NW.out)
      clear hb hg12 F1 U1 M5 MB NW
      have hlk := used_look U3.out HAb.out HU1.out
      obtain ⟨w4, hup, U4, hgr⟩ := used_store U3.out HAb.out HU1.out Hn.out
      rw [← HKA.out] at hlk hup
      have F4 := Aside0.mk (show Fr (· = gM) w w4 from F3.out.trans (F' := (· = gM)) ⟨hgr.os, hgr.tape, hgr.output, hgr.size, fun i hi hn => hgr.block i hi (fun e => hn (by injection e))⟩ (fun i h => .inl h))
      rw [HAA.out, laid_succ] at U4
      have V4 := Aside0.mk U4
      clear U4 hgr
      have hk1 := HK1.out
      have hcB : w3.cell? ⟨gB, 0, none⟩ = some (.map (some gM)) := by rw [blk_cell RB.out]; rfl
      have hc0 : w3.cell? ⟨g12, 0, none⟩ = some (.int .i64 X) := by rw [blk_cell N12.out]; rfl
      have hc1 : w3.cell? ⟨g12, 1, none⟩ = some (.int .i64 Y) := by rw [blk_cell N12.out]; rfl
      go_wp2_with fail
      go_roundg (gk - 1)
      case measure => exact HM.out
      case rel => exact ⟨k + 1, by go_num, HN, V4, F4⟩
    have hke : k = m := by have := HJ.out; omega
    subst hke
    have hgd : decide ((k : Int) < (k : Int)) = false := by simp
    clear hlt
    go_wp2_with fail
    go_ret
    exact ⟨by simp, UU.out, FF.out⟩
end Go.Proofs.Ythfjgheedingbaa.Pure
