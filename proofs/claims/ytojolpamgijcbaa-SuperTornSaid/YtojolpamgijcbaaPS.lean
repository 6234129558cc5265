/- A block's super, by the code: its walk. -/
import Derived.Test.YtojolpamgijcbaaRdr
import Derived.Test.YtojolpamgijcbaaSB
import Derived.Deep.RegionHeld3
import Derived.Lib.Bytes
namespace Go.Proofs.Ytojolpamgijcbaa.Pure
open Go.RowKit Go.Proofs.Ytojolpamgijcbaa Go.Proofs.Ytojolpamgijcbaa.PAll Go.Proofs.Ytojolpamgijcbaa.PGt Go.Proofs.Ytojolpamgijcbaa.Mem Go.Proofs.YtojolpamgijcbaaW.PrintWords Go.Proofs.YtojolpamgijcbaaW.PrintLast Go.Proofs.YtojolpamgijcbaaW.PrintMore
set_option linter.unusedVariables false
set_option linter.unusedSimpArgs false

theorem part_drop {w : World} {ad : Addr} {l : List Int} (h : Kd.C (Kd.int .u8) w (some ad) l.length l) (hl : l.length = 256) : Kd.C (Kd.int .u8) w (some ⟨ad.block, ad.off + 8, none⟩) 248 (l.drop 8) := by
  have h4 := Kd.C_drop (c := 256) h (m := 8) (by omega) (by omega)
  have hs : (Kd.int .u8).sz = 1 := rfl
  rw [List.length_drop, hl, hs, Nat.mul_one, if_neg (by decide)] at h4
  simp only [Option.map_some, Go.Addr.add] at h4
  rw [if_neg (by omega)] at h4
  exact h4
set_option maxRecDepth 100000 in
theorem read_c {w : World} {A : Option Addr} {c : Nat} {l : List Int} (hC : Kd.C (Kd.int .u8) w A l.length l) (hc : l.length ≤ c) (hl : l.length ≤ 1000) :
    Calls Try.prog 32 #[.slice A l.length c] w fun e w' => ∃ g B d, e = .returned (.pointer (some ⟨g, 0, none⟩)) ∧ w.heap.size ≤ g ∧ w'.heap[g]? = some (.cells (rdCs B l.length d 0 0 true) 75 (0, 0)) ∧ Own w' w.heap.size B d l ∧ (∀ k, 0 < l.length → B = some ⟨k, 0, none⟩ → k ≠ g) ∧ Below w.heap.size w w' := by
  have HC := Aside0.mk hC
  have HL := Aside0.mk hl
  clear hC hl
  go_enter Try.func32, Try.ntmps32
  go_wp2_with fail
  refine (bclone_c HC.out hc HL.out).mono ?_
  rintro e w1 ⟨B, d, rfl, hO, hb⟩
  have O1 := Aside0.mk hO
  have K1 := Aside0.mk hb
  clear hO hb
  go_wp2_with fail
  go_ret
  refine ⟨w1.heap.size, B, d, rfl, K1.out.size, heap_new w1 _, own_below O1.out ((Below.refl _ w1).alloc (Nat.le_refl _) _), fun k hk hB => Nat.ne_of_lt (own_lt O1.out k hk hB).2, K1.out.alloc K1.out.size _⟩
theorem num33_d {w : World} {g : Nat} {B : Option Addr} {c p n : Nat} {l : List Int} {a b : Int} (hL : l.length = 248) (hg : w.heap[g]? = some (.cells (rdCs B 248 c a 0 true) 75 (0, 0))) (ha : a = (p : Int)) (hbb : ((p + n : Nat) : Int) = b) (hC : Kd.C (Kd.int .u8) w B l.length l) (hc : l.length ≤ c) (hb : Bytes l) (hn : 1 ≤ n ∧ n ≤ 8) (hp : p + n ≤ 248) :
    Calls Try.prog 33 #[.pointer (some ⟨g, 0, none⟩), .int .i64 n] w fun e w' => e = .returned (.int .u64 (getL l p n : Int)) ∧ w'.heap[g]? = some (.cells (rdCs B 248 c b 0 true) 75 (0, 0)) ∧ Fr (· = g) w w' := by
  subst ha hbb
  have := num33_c (w := w) (g := g) (B := B) (c := c) (p := p) (n := n) (l := l) (by rw [hL]; exact hg) hC hc hb (by omega) hn (by omega)
  rwa [hL] at this
theorem set6 {w w1 : World} {B g : Nat} {t : TypeId} {a0 a1 a2 a3 a4 a5 : Value} (h : w1.heap[g]? = some (.cells #[a0, a1, a2, a3, a4, a5] t (0, 0))) (hK : Below B w w1) (hg : B ≤ g) (v0 v1 v2 v3 v4 v5 : Value) :
    ((((((w1.setCell ⟨g, 0, none⟩ v0).setCell ⟨g, 1, none⟩ v1).setCell ⟨g, 2, none⟩ v2).setCell ⟨g, 3, none⟩ v3).setCell ⟨g, 4, none⟩ v4).setCell ⟨g, 5, none⟩ v5).heap[g]? = some (.cells #[v0, v1, v2, v3, v4, v5] t (0, 0)) ∧
    Below B w ((((((w1.setCell ⟨g, 0, none⟩ v0).setCell ⟨g, 1, none⟩ v1).setCell ⟨g, 2, none⟩ v2).setCell ⟨g, 3, none⟩ v3).setCell ⟨g, 4, none⟩ v4).setCell ⟨g, 5, none⟩ v5) :=
  ⟨by rw [blk_set (blk_set (blk_set (blk_set (blk_set (blk_set h 0 v0) 1 v1) 2 v2) 3 v3) 4 v4) 5 v5]; simp, (((((hK.setCell (p := ⟨g, 0, none⟩) hg v0).setCell (p := ⟨g, 1, none⟩) hg v1).setCell (p := ⟨g, 2, none⟩) hg v2).setCell (p := ⟨g, 3, none⟩) hg v3).setCell (p := ⟨g, 4, none⟩) hg v4).setCell (p := ⟨g, 5, none⟩) hg v5⟩
theorem ofNat_inj8 {x y : Int} (hx : 0 ≤ x ∧ x < 256) (hy : 0 ≤ y ∧ y < 256) (h : UInt8.ofNat x.toNat = UInt8.ofNat y.toNat) : x = y := by
  have h2 := congrArg UInt8.toNat h
  simp only [UInt8.toNat_ofNat'] at h2
  omega
theorem map8_inj : ∀ (x y : List Int), Bytes x → Bytes y → (x.map fun n => UInt8.ofNat n.toNat) = (y.map fun n => UInt8.ofNat n.toNat) → x = y
  | [], [], _, _, _ => rfl
  | [], _ :: _, _, _, h => by simp at h
  | _ :: _, [], _, _, h => by simp at h
  | a :: x, b :: y, hx, hy, h => by
    simp only [List.map_cons, List.cons.injEq] at h
    rw [ofNat_inj8 (hx a (by simp)) (hy b (by simp)) h.1, map8_inj x y (fun z hz => hx z (by simp [hz])) (fun z hz => hy z (by simp [hz])) h.2]
theorem equal_f (x y : List Int) (hx : Bytes x) (hy : Bytes y) : bytes_Equal.f x y = some (decide (x = y)) := by
  unfold bytes_Equal.f
  congr 1
  by_cases h : x = y
  · subst h
    simp
  · rw [decide_eq_false h, Go.Lib.strOfNums_toList, Go.Lib.strOfNums_toList, beq_eq_false_iff_ne]
    intro e
    exact h (map8_inj x y hx hy e)
theorem sz_set (w : World) (p : Addr) (v : Value) : (w.setCell p v).heap.size = w.heap.size := by simp [World.setCell]
abbrev ptCs (g : Nat) : Array Value := #[.pointer (some ⟨g, 1, none⟩), .pointer (some ⟨g, 2, none⟩), .pointer (some ⟨g, 3, none⟩), .pointer (some ⟨g, 4, none⟩)]
theorem pt_cell {w : World} {g h : Nat} (hp : w.heap[g]? = some (.cells (ptCs h) 60 (0, 0))) {j : Nat} (hj : j < 4) : w.cell? ⟨g, j, none⟩ = some (.pointer (some ⟨h, j + 1, none⟩)) := by
  obtain rfl | rfl | rfl | rfl : j = 0 ∨ j = 1 ∨ j = 2 ∨ j = 3 := by omega
  all_goals (unfold World.cell?; simp only [hp]; rfl)
def bxA (x0 x1 x2 x3 x4 : Int) : Nat → Array Value
  | 0 => supCs x0 0 0 0 0 0
  | 1 => supCs x0 x1 0 0 0 0
  | 2 => supCs x0 x1 x2 0 0 0
  | 3 => supCs x0 x1 x2 x3 0 0
  | _ => supCs x0 x1 x2 x3 x4 0
theorem getL_drop (l : List Int) (p n : Nat) : getL (l.drop 8) p n = getL l (8 + p) n := by unfold getL; rw [List.drop_drop]
set_option maxRecDepth 100000 in
set_option maxHeartbeats 16000000 in
theorem parse_c {w : World} {A : Option Addr} {c : Nat} {l : List Int} (hC : Kd.C (Kd.int .u8) w A l.length l) (hc : l.length ≤ c) (hb : Bytes l) (hl : l.length = 256)
    (x0 x1 x2 x3 x4 x5 : Int) (h0 : wrap64 (getL l 8 8 : Int) = x0) (h1 : wrap64 (getL l 16 4 : Int) = x1) (h2 : wrap64 (getL l 20 4 : Int) = x2) (h3 : wrap64 (getL l 24 4 : Int) = x3) (h4 : wrap64 (getL l 28 4 : Int) = x4) (h5 : wrap64 (getL l 32 8 : Int) = x5)
    (ck : Int) (hck : super_Check.f x0 x1 x2 x3 x4 x5 = some ck) (y0 y1 y2 y3 y4 y5 ey : Int)
    (hy : (ck = 0 ∧ supB x0 x1 x2 x3 x4 x5 = l ∧ y0 = x0 ∧ y1 = x1 ∧ y2 = x2 ∧ y3 = x3 ∧ y4 = x4 ∧ y5 = x5 ∧ ey = 0) ∨ (¬ (ck = 0 ∧ supB x0 x1 x2 x3 x4 x5 = l) ∧ y0 = 0 ∧ y1 = 0 ∧ y2 = 0 ∧ y3 = 0 ∧ y4 = 0 ∧ y5 = 0 ∧ ey = 50)) :
    Calls Try.prog 19 #[.slice A l.length c] w fun e w' => e = .returned (.tuple #[.agg #[.int .i64 y0, .int .i64 y1, .int .i64 y2, .int .i64 y3, .int .i64 y4, .int .i64 y5], .int .i64 ey]) ∧ Below w.heap.size w w' := by
  have hu25 := Try.underlying25
  have hu23 := Try.underlying23
  have HY := Aside0.mk hy
  have CK := Aside0.mk hck
  have H0 := Aside0.mk h0
  have H1 := Aside0.mk h1
  have H2 := Aside0.mk h2
  have H3 := Aside0.mk h3
  have H4 := Aside0.mk h4
  have H5 := Aside0.mk h5
  have C0 := Aside0.mk hC
  have HB := Aside0.mk hb
  have HL := Aside0.mk hl
  have hli : (l.length : Int) = 256 := by omega
  have hcI : 256 ≤ c := by omega
  have K0 := Aside0.mk ((Below.refl w.heap.size w).alloc (Nat.le_refl _) (.cells (supCs 0 0 0 0 0 0) 25))
  have G0 := Aside0.mk (heap_new w (.cells (supCs 0 0 0 0 0 0) 25))
  obtain ⟨ad, rfl, _⟩ := Kd.at_int hC 0 (by decide) (by omega)
  have hlen : (l.drop 8).length = 248 := by rw [List.length_drop]; omega
  have CD := Aside0.mk (show Kd.C (Kd.int .u8) (w.alloc (.cells (supCs 0 0 0 0 0 0) 25)) (some ⟨ad.block, ad.off + 8, none⟩) 248 (l.drop 8) from part_drop (Kd.C_below hC K0.out) hl)
  have LD := Aside0.mk hlen
  have BD := Aside0.mk (show Bytes (l.drop 8) from fun x hx => hb x (List.mem_of_mem_drop hx))
  clear hy hck h0 h1 h2 h3 h4 h5 hC hb hlen
  go_enter Try.func19, Try.ntmps19
  go_wp2_with fail
  have hrd := read_c (w := w.alloc (.cells (supCs 0 0 0 0 0 0) 25)) (A := some ⟨ad.block, ad.off + 8, none⟩) (c := c - 8) (l := l.drop 8) (by rw [LD.out]; exact CD.out) (by rw [LD.out]; omega) (by rw [LD.out]; decide)
  rw [LD.out] at hrd
  refine hrd.mono ?_
  rintro e w1 ⟨g, B, d, rfl, hge, hR, hO, hne, hb1⟩
  clear hrd
  have GE := Aside0.mk (show w.heap.size < g by simp at hge; omega)
  have R1 := Aside0.mk hR
  have O1 := Aside0.mk hO
  have NE := Aside0.mk (show ∀ k, B = some ⟨k, 0, none⟩ → k ≠ g from fun k h => hne k (by decide) h)
  have K1 := Aside0.mk (K0.out.trans (hb1.mono K0.out.size))
  have G1 := Aside0.mk ((hb1.block _ (blk_lt G0.out)).trans G0.out)
  obtain ⟨g6, hg6⟩ : ∃ k, k = w1.heap.size := ⟨_, rfl⟩
  have S1 := Aside0.mk (show (w1.alloc (.cells (supCs 0 0 0 0 0 0) 25)).heap[g6]? = some (.cells (supCs 0 0 0 0 0 0) 25 (0, 0)) from by rw [hg6]; exact heap_new w1 _)
  have ha := (Below.refl w1.heap.size w1).alloc (Nat.le_refl _) (.cells (supCs 0 0 0 0 0 0) 25)
  replace K1 := Aside0.mk (K1.out.trans (ha.mono K1.out.size))
  replace G1 := Aside0.mk ((ha.block _ (blk_lt G1.out)).trans G1.out)
  have NN := Aside0.mk (show w.heap.size ≠ g ∧ g6 ≠ g ∧ w.heap.size ≠ g6 ∧ w.heap.size < g6 from by
    have h1 := GE.out
    have h2 := blk_lt hR
    have h3 := hb1.size
    simp at h3
    omega)
  replace R1 := Aside0.mk ((ha.block _ (blk_lt R1.out)).trans R1.out)
  replace O1 := Aside0.mk (own_below O1.out ha)
  have N6 := Aside0.mk (show ∀ k, B = some ⟨k, 0, none⟩ → k ≠ g6 from fun k h2 => by have := (own_lt hO k (by rw [LD.out]; decide) h2).2; omega)
  have hcv : wrap64 ((getL (l.drop 8) 0 8 : Nat) : Int) = x0 := by rw [getL_drop]; exact H0.out
  clear hge hR hO hne hb1 hli ha
  go_wp2_with fail
  rw [← hg6]
  clear hg6
  refine (num33_d (p := 0) (n := 8) (b := 8) LD.out R1.out (by rfl) (by rfl) O1.out.C O1.out.cap BD.out (by decide) (by decide)).mono ?_
  rintro e w2 ⟨rfl, hR, hf⟩
  have R2 := Aside0.mk hR
  have K2 := Aside0.mk (hf.below K1.out (fun i hi => by rw [hi]; exact Nat.le_of_lt GE.out) K1.out.size)
  have G2 := Aside0.mk ((hf.block _ (blk_lt G1.out) NN.out.1).trans G1.out)
  have S2 := Aside0.mk ((hf.block _ (blk_lt S1.out) NN.out.2.1).trans S1.out)
  have O2 := Aside0.mk (own_kept O1.out (fun k h1 h2 => hf.block k (own_lt O1.out k h1 h2).2 (NE.out k h2)))
  clear hR hf
  have z0 := (sup_cells S2.out).1
  have y0_ := blk_frozen S2.out 0
  go_wp2_with fail
  have R3 := Aside0.mk ((Below.heap_setCell w2 ⟨g6, 0, none⟩ (.int .i64 x0) g (Ne.symm NN.out.2.1)).trans R2.out)
  have K3 := Aside0.mk (K2.out.setCell (p := ⟨g6, 0, none⟩) (Nat.le_of_lt NN.out.2.2.2) (.int .i64 x0))
  have G3 := Aside0.mk ((Below.heap_setCell w2 ⟨g6, 0, none⟩ (.int .i64 x0) w.heap.size NN.out.2.2.1).trans G2.out)
  have S3 := Aside0.mk (show (w2.setCell ⟨g6, 0, none⟩ (.int .i64 x0)).heap[g6]? = some (.cells (supCs x0 0 0 0 0 0) 25 (0, 0)) from by rw [blk_set S2.out 0 _]; simp)
  have O3 := Aside0.mk (own_kept (w1 := w2.setCell ⟨g6, 0, none⟩ (.int .i64 x0)) O2.out (fun k h1 h2 => Below.heap_setCell w2 ⟨g6, 0, none⟩ (.int .i64 x0) k (N6.out k h2)))
  obtain ⟨gP, hgP⟩ : ∃ k, k = w2.heap.size := ⟨_, rfl⟩
  have ha := (Below.refl (w2.setCell ⟨g6, 0, none⟩ (.int .i64 x0)).heap.size (w2.setCell ⟨g6, 0, none⟩ (.int .i64 x0))).alloc (Nat.le_refl _) (.cells (ptCs g6) 60)
  have P3 := Aside0.mk (show ((w2.setCell ⟨g6, 0, none⟩ (.int .i64 x0)).alloc (.cells (ptCs g6) 60)).heap[gP]? = some (.cells (ptCs g6) 60 (0, 0)) from by rw [hgP, ← sz_set w2 ⟨g6, 0, none⟩ (.int .i64 x0)]; exact heap_new _ _)
  have NP := Aside0.mk (show gP ≠ g ∧ gP ≠ g6 from by
    have h2 := blk_lt R3.out
    have h3 := blk_lt S3.out
    rw [sz_set] at h2 h3
    omega)
  replace K3 := Aside0.mk (K3.out.trans (ha.mono K3.out.size))
  replace G3 := Aside0.mk ((ha.block _ (blk_lt G3.out)).trans G3.out)
  replace S3 := Aside0.mk ((ha.block _ (blk_lt S3.out)).trans S3.out)
  replace R3 := Aside0.mk ((ha.block _ (blk_lt R3.out)).trans R3.out)
  replace O3 := Aside0.mk (own_below O3.out ha)
  rw [← hgP]
  clear hgP ha z0 y0_ hcv O1 R1 K1 G1 S1 R2 K2 G2 S2 O2
  go_loopg [34] 4 (fun q v34 w' => ∃ (j : Nat), v34 = .int .i64 (j : Int) ∧ Aside0 (j + q = 4) ∧ Aside0 (w'.heap[g]? = some (.cells (rdCs B 248 d ((8 + 4 * j : Nat) : Int) 0 true) 75 (0, 0))) ∧ Aside0 (Below w.heap.size w w') ∧ Aside0 (w'.heap[w.heap.size]? = some (.cells (supCs 0 0 0 0 0 0) 25 (0, 0))) ∧ Aside0 (w'.heap[g6]? = some (.cells (bxA x0 x1 x2 x3 x4 j) 25 (0, 0))) ∧ Aside0 (Own w' (w.alloc (.cells (supCs 0 0 0 0 0 0) 25)).heap.size B d (l.drop 8)) ∧ Aside0 (w'.heap[gP]? = some (.cells (ptCs g6) 60 (0, 0))))
  case atStart => exact ⟨0, rfl, ⟨rfl⟩, ⟨R3.out⟩, K3, G3, ⟨S3.out⟩, O3, P3⟩
  case round =>
    clear R3 K3 G3 S3 O3 P3
    obtain ⟨j, rfl, HJ, R1, K1, G1, S1, O1, P1⟩ := hrel
    by_cases hlt : j < 4
    case pos =>
      have HK := Aside0.mk HJ.out
      obtain rfl | rfl | rfl | rfl : j = 0 ∨ j = 1 ∨ j = 2 ∨ j = 3 := by omega
      · replace S1 := Aside0.mk (show wr.heap[g6]? = some (.cells (supCs x0 0 0 0 0 0) 25 (0, 0)) from S1.out)
        replace R1 := Aside0.mk (show wr.heap[g]? = some (.cells (rdCs B 248 d (8 : Int) 0 true) 75 (0, 0)) from R1.out)
        have hpt := pt_cell P1.out (j := 0) (by decide)
        have hcv : wrap64 ((getL (l.drop 8) 8 4 : Nat) : Int) = x1 := by rw [getL_drop]; exact H1.out
        clear hlt HJ
        go_wp2_with fail
        refine (num33_d (p := 8) (n := 4) (b := 12) LD.out R1.out (by rfl) (by rfl) O1.out.C O1.out.cap BD.out (by decide) (by decide)).mono ?_
        rintro e wn ⟨rfl, hR, hf⟩
        have R2 := Aside0.mk hR
        have K2 := Aside0.mk (hf.below K1.out (fun i hi => by rw [hi]; exact Nat.le_of_lt GE.out) K1.out.size)
        have G2 := Aside0.mk ((hf.block _ (blk_lt G1.out) NN.out.1).trans G1.out)
        have S2 := Aside0.mk ((hf.block _ (blk_lt S1.out) NN.out.2.1).trans S1.out)
        have O2 := Aside0.mk (own_kept O1.out (fun k h1 h2 => hf.block k (own_lt O1.out k h1 h2).2 (NE.out k h2)))
        have hf_ := hf; clear hR hf
        have P2 := Aside0.mk ((hf_.block _ (blk_lt P1.out) NP.out.1).trans P1.out)
        clear hf_
        have z0 := (sup_cells S2.out).2.1
        have y0_ := blk_frozen S2.out 1
        go_wp2_with fail
        have R3 := Aside0.mk ((Below.heap_setCell wn ⟨g6, 1, none⟩ (.int .i64 x1) g (Ne.symm NN.out.2.1)).trans R2.out)
        have K3 := Aside0.mk (K2.out.setCell (p := ⟨g6, 1, none⟩) (Nat.le_of_lt NN.out.2.2.2) (.int .i64 x1))
        have G3 := Aside0.mk ((Below.heap_setCell wn ⟨g6, 1, none⟩ (.int .i64 x1) w.heap.size NN.out.2.2.1).trans G2.out)
        have S3 := Aside0.mk (show (wn.setCell ⟨g6, 1, none⟩ (.int .i64 x1)).heap[g6]? = some (.cells (supCs x0 x1 0 0 0 0) 25 (0, 0)) from by rw [blk_set S2.out 1 _]; simp)
        have O3 := Aside0.mk (own_kept (w1 := wn.setCell ⟨g6, 1, none⟩ (.int .i64 x1)) O2.out (fun k h1 h2 => Below.heap_setCell wn ⟨g6, 1, none⟩ (.int .i64 x1) k (N6.out k h2)))
        have P3 := Aside0.mk ((Below.heap_setCell wn ⟨g6, 1, none⟩ (.int .i64 x1) gP NP.out.2).trans P2.out)
        go_roundg (gk - 1)
        case measure => have := HK.out; omega
        case rel => exact ⟨1, by go_num, ⟨by have := HK.out; omega⟩, ⟨R3.out⟩, K3, G3, ⟨S3.out⟩, O3, P3⟩
      · replace S1 := Aside0.mk (show wr.heap[g6]? = some (.cells (supCs x0 x1 0 0 0 0) 25 (0, 0)) from S1.out)
        replace R1 := Aside0.mk (show wr.heap[g]? = some (.cells (rdCs B 248 d (12 : Int) 0 true) 75 (0, 0)) from R1.out)
        have hpt := pt_cell P1.out (j := 1) (by decide)
        have hcv : wrap64 ((getL (l.drop 8) 12 4 : Nat) : Int) = x2 := by rw [getL_drop]; exact H2.out
        clear hlt HJ
        go_wp2_with fail
        refine (num33_d (p := 12) (n := 4) (b := 16) LD.out R1.out (by rfl) (by rfl) O1.out.C O1.out.cap BD.out (by decide) (by decide)).mono ?_
        rintro e wn ⟨rfl, hR, hf⟩
        have R2 := Aside0.mk hR
        have K2 := Aside0.mk (hf.below K1.out (fun i hi => by rw [hi]; exact Nat.le_of_lt GE.out) K1.out.size)
        have G2 := Aside0.mk ((hf.block _ (blk_lt G1.out) NN.out.1).trans G1.out)
        have S2 := Aside0.mk ((hf.block _ (blk_lt S1.out) NN.out.2.1).trans S1.out)
        have O2 := Aside0.mk (own_kept O1.out (fun k h1 h2 => hf.block k (own_lt O1.out k h1 h2).2 (NE.out k h2)))
        have hf_ := hf; clear hR hf
        have P2 := Aside0.mk ((hf_.block _ (blk_lt P1.out) NP.out.1).trans P1.out)
        clear hf_
        have z0 := (sup_cells S2.out).2.2.1
        have y0_ := blk_frozen S2.out 2
        go_wp2_with fail
        have R3 := Aside0.mk ((Below.heap_setCell wn ⟨g6, 2, none⟩ (.int .i64 x2) g (Ne.symm NN.out.2.1)).trans R2.out)
        have K3 := Aside0.mk (K2.out.setCell (p := ⟨g6, 2, none⟩) (Nat.le_of_lt NN.out.2.2.2) (.int .i64 x2))
        have G3 := Aside0.mk ((Below.heap_setCell wn ⟨g6, 2, none⟩ (.int .i64 x2) w.heap.size NN.out.2.2.1).trans G2.out)
        have S3 := Aside0.mk (show (wn.setCell ⟨g6, 2, none⟩ (.int .i64 x2)).heap[g6]? = some (.cells (supCs x0 x1 x2 0 0 0) 25 (0, 0)) from by rw [blk_set S2.out 2 _]; simp)
        have O3 := Aside0.mk (own_kept (w1 := wn.setCell ⟨g6, 2, none⟩ (.int .i64 x2)) O2.out (fun k h1 h2 => Below.heap_setCell wn ⟨g6, 2, none⟩ (.int .i64 x2) k (N6.out k h2)))
        have P3 := Aside0.mk ((Below.heap_setCell wn ⟨g6, 2, none⟩ (.int .i64 x2) gP NP.out.2).trans P2.out)
        go_roundg (gk - 1)
        case measure => have := HK.out; omega
        case rel => exact ⟨2, by go_num, ⟨by have := HK.out; omega⟩, ⟨R3.out⟩, K3, G3, ⟨S3.out⟩, O3, P3⟩
      · replace S1 := Aside0.mk (show wr.heap[g6]? = some (.cells (supCs x0 x1 x2 0 0 0) 25 (0, 0)) from S1.out)
        replace R1 := Aside0.mk (show wr.heap[g]? = some (.cells (rdCs B 248 d (16 : Int) 0 true) 75 (0, 0)) from R1.out)
        have hpt := pt_cell P1.out (j := 2) (by decide)
        have hcv : wrap64 ((getL (l.drop 8) 16 4 : Nat) : Int) = x3 := by rw [getL_drop]; exact H3.out
        clear hlt HJ
        go_wp2_with fail
        refine (num33_d (p := 16) (n := 4) (b := 20) LD.out R1.out (by rfl) (by rfl) O1.out.C O1.out.cap BD.out (by decide) (by decide)).mono ?_
        rintro e wn ⟨rfl, hR, hf⟩
        have R2 := Aside0.mk hR
        have K2 := Aside0.mk (hf.below K1.out (fun i hi => by rw [hi]; exact Nat.le_of_lt GE.out) K1.out.size)
        have G2 := Aside0.mk ((hf.block _ (blk_lt G1.out) NN.out.1).trans G1.out)
        have S2 := Aside0.mk ((hf.block _ (blk_lt S1.out) NN.out.2.1).trans S1.out)
        have O2 := Aside0.mk (own_kept O1.out (fun k h1 h2 => hf.block k (own_lt O1.out k h1 h2).2 (NE.out k h2)))
        have hf_ := hf; clear hR hf
        have P2 := Aside0.mk ((hf_.block _ (blk_lt P1.out) NP.out.1).trans P1.out)
        clear hf_
        have z0 := (sup_cells S2.out).2.2.2.1
        have y0_ := blk_frozen S2.out 3
        go_wp2_with fail
        have R3 := Aside0.mk ((Below.heap_setCell wn ⟨g6, 3, none⟩ (.int .i64 x3) g (Ne.symm NN.out.2.1)).trans R2.out)
        have K3 := Aside0.mk (K2.out.setCell (p := ⟨g6, 3, none⟩) (Nat.le_of_lt NN.out.2.2.2) (.int .i64 x3))
        have G3 := Aside0.mk ((Below.heap_setCell wn ⟨g6, 3, none⟩ (.int .i64 x3) w.heap.size NN.out.2.2.1).trans G2.out)
        have S3 := Aside0.mk (show (wn.setCell ⟨g6, 3, none⟩ (.int .i64 x3)).heap[g6]? = some (.cells (supCs x0 x1 x2 x3 0 0) 25 (0, 0)) from by rw [blk_set S2.out 3 _]; simp)
        have O3 := Aside0.mk (own_kept (w1 := wn.setCell ⟨g6, 3, none⟩ (.int .i64 x3)) O2.out (fun k h1 h2 => Below.heap_setCell wn ⟨g6, 3, none⟩ (.int .i64 x3) k (N6.out k h2)))
        have P3 := Aside0.mk ((Below.heap_setCell wn ⟨g6, 3, none⟩ (.int .i64 x3) gP NP.out.2).trans P2.out)
        go_roundg (gk - 1)
        case measure => have := HK.out; omega
        case rel => exact ⟨3, by go_num, ⟨by have := HK.out; omega⟩, ⟨R3.out⟩, K3, G3, ⟨S3.out⟩, O3, P3⟩
      · replace S1 := Aside0.mk (show wr.heap[g6]? = some (.cells (supCs x0 x1 x2 x3 0 0) 25 (0, 0)) from S1.out)
        replace R1 := Aside0.mk (show wr.heap[g]? = some (.cells (rdCs B 248 d (20 : Int) 0 true) 75 (0, 0)) from R1.out)
        have hpt := pt_cell P1.out (j := 3) (by decide)
        have hcv : wrap64 ((getL (l.drop 8) 20 4 : Nat) : Int) = x4 := by rw [getL_drop]; exact H4.out
        clear hlt HJ
        go_wp2_with fail
        refine (num33_d (p := 20) (n := 4) (b := 24) LD.out R1.out (by rfl) (by rfl) O1.out.C O1.out.cap BD.out (by decide) (by decide)).mono ?_
        rintro e wn ⟨rfl, hR, hf⟩
        have R2 := Aside0.mk hR
        have K2 := Aside0.mk (hf.below K1.out (fun i hi => by rw [hi]; exact Nat.le_of_lt GE.out) K1.out.size)
        have G2 := Aside0.mk ((hf.block _ (blk_lt G1.out) NN.out.1).trans G1.out)
        have S2 := Aside0.mk ((hf.block _ (blk_lt S1.out) NN.out.2.1).trans S1.out)
        have O2 := Aside0.mk (own_kept O1.out (fun k h1 h2 => hf.block k (own_lt O1.out k h1 h2).2 (NE.out k h2)))
        have hf_ := hf; clear hR hf
        have P2 := Aside0.mk ((hf_.block _ (blk_lt P1.out) NP.out.1).trans P1.out)
        clear hf_
        have z0 := (sup_cells S2.out).2.2.2.2.1
        have y0_ := blk_frozen S2.out 4
        go_wp2_with fail
        have R3 := Aside0.mk ((Below.heap_setCell wn ⟨g6, 4, none⟩ (.int .i64 x4) g (Ne.symm NN.out.2.1)).trans R2.out)
        have K3 := Aside0.mk (K2.out.setCell (p := ⟨g6, 4, none⟩) (Nat.le_of_lt NN.out.2.2.2) (.int .i64 x4))
        have G3 := Aside0.mk ((Below.heap_setCell wn ⟨g6, 4, none⟩ (.int .i64 x4) w.heap.size NN.out.2.2.1).trans G2.out)
        have S3 := Aside0.mk (show (wn.setCell ⟨g6, 4, none⟩ (.int .i64 x4)).heap[g6]? = some (.cells (supCs x0 x1 x2 x3 x4 0) 25 (0, 0)) from by rw [blk_set S2.out 4 _]; simp)
        have O3 := Aside0.mk (own_kept (w1 := wn.setCell ⟨g6, 4, none⟩ (.int .i64 x4)) O2.out (fun k h1 h2 => Below.heap_setCell wn ⟨g6, 4, none⟩ (.int .i64 x4) k (N6.out k h2)))
        have P3 := Aside0.mk ((Below.heap_setCell wn ⟨g6, 4, none⟩ (.int .i64 x4) gP NP.out.2).trans P2.out)
        go_roundg (gk - 1)
        case measure => have := HK.out; omega
        case rel => exact ⟨4, by go_num, ⟨by have := HK.out; omega⟩, ⟨R3.out⟩, K3, G3, ⟨S3.out⟩, O3, P3⟩
    have hj : j = 4 := by have := HJ.out; omega
    subst hj
    clear hlt
    replace S1 := Aside0.mk (show wr.heap[g6]? = some (.cells (supCs x0 x1 x2 x3 x4 0) 25 (0, 0)) from S1.out)
    replace R1 := Aside0.mk (show wr.heap[g]? = some (.cells (rdCs B 248 d (24 : Int) 0 true) 75 (0, 0)) from R1.out)
    have hcv : wrap64 ((getL (l.drop 8) 24 8 : Nat) : Int) = x5 := by rw [getL_drop]; exact H5.out
    clear P1
    go_wp2_with fail
    refine (num33_d (p := 24) (n := 8) (b := 32) LD.out R1.out (by rfl) (by rfl) O1.out.C O1.out.cap BD.out (by decide) (by decide)).mono ?_
    rintro e wm ⟨rfl, hR, hf⟩
    have R2 := Aside0.mk hR
    have K2 := Aside0.mk (hf.below K1.out (fun i hi => by rw [hi]; exact Nat.le_of_lt GE.out) K1.out.size)
    have G2 := Aside0.mk ((hf.block _ (blk_lt G1.out) NN.out.1).trans G1.out)
    have S2 := Aside0.mk ((hf.block _ (blk_lt S1.out) NN.out.2.1).trans S1.out)
    have O2 := Aside0.mk (own_kept O1.out (fun k h1 h2 => hf.block k (own_lt O1.out k h1 h2).2 (NE.out k h2)))
    clear hR hf
    have z0 := (sup_cells S2.out).2.2.2.2.2
    have y0_ := blk_frozen S2.out 5
    have R3 := Aside0.mk ((Below.heap_setCell wm ⟨g6, 5, none⟩ (.int .i64 x5) g (Ne.symm NN.out.2.1)).trans R2.out)
    have K3 := Aside0.mk (K2.out.setCell (p := ⟨g6, 5, none⟩) (Nat.le_of_lt NN.out.2.2.2) (.int .i64 x5))
    have G3 := Aside0.mk ((Below.heap_setCell wm ⟨g6, 5, none⟩ (.int .i64 x5) w.heap.size NN.out.2.2.1).trans G2.out)
    have S3 := Aside0.mk (show (wm.setCell ⟨g6, 5, none⟩ (.int .i64 x5)).heap[g6]? = some (.cells (supCs x0 x1 x2 x3 x4 x5) 25 (0, 0)) from by rw [blk_set S2.out 5 _]; simp)
    have O3 := Aside0.mk (own_kept (w1 := wm.setCell ⟨g6, 5, none⟩ (.int .i64 x5)) O2.out (fun k h1 h2 => Below.heap_setCell wm ⟨g6, 5, none⟩ (.int .i64 x5) k (N6.out k h2)))
    obtain ⟨s0, s1, s2, s3, s4, s5⟩ := sup_cells S3.out
    go_wp2_with fail
    have HK := Aside0.mk HJ.out
    clear HJ z0 y0_ hcv s0 s1 s2 s3 s4 s5
    by_cases hc0 : ck = 0
    case neg =>
      obtain ⟨rfl, rfl, rfl, rfl, rfl, rfl, rfl⟩ : y0 = 0 ∧ y1 = 0 ∧ y2 = 0 ∧ y3 = 0 ∧ y4 = 0 ∧ y5 = 0 ∧ ey = 50 := by
        rcases HY.out with ⟨h, _⟩ | ⟨_, h⟩
        · exact absurd h hc0
        · exact h
      refine (sbytes_no _ x0 x1 x2 x3 x4 x5 ck CK.out hc0).mono ?_
      rintro e w4 ⟨rfl, hb4⟩
      have K4 := Aside0.mk (K3.out.trans (hb4.mono K3.out.size))
      have G4 := Aside0.mk ((hb4.block _ (blk_lt G3.out)).trans G3.out)
      have S4 := Aside0.mk ((hb4.block _ (blk_lt S3.out)).trans S3.out)
      have hckn : (ck != 0) = true := by simpa using hc0
      clear hb4 hc0
      obtain ⟨z0, z1, z2, z3, z4, z5⟩ := sup_cells G4.out
      have f0 := blk_frozen G4.out 0
      have f1 := blk_frozen G4.out 1
      have f2 := blk_frozen G4.out 2
      have f3 := blk_frozen G4.out 3
      have f4 := blk_frozen G4.out 4
      have f5 := blk_frozen G4.out 5
      go_wp2_with fail
      obtain ⟨hs, hk⟩ := set6 G4.out K4.out (Nat.le_refl _) (.int .i64 0) (.int .i64 0) (.int .i64 0) (.int .i64 0) (.int .i64 0) (.int .i64 0)
      refine bodyPost_ret (results_ct rfl _ _ w.heap.size 25 #[.int .i64 0, .int .i64 0, .int .i64 0, .int .i64 0, .int .i64 0, .int .i64 0] (0, 0) _ rfl hs Try.underlying25 rfl (by kernel_rfl)) rfl ?_
      exact ⟨rfl, hk⟩
    subst hc0
    refine (sbytes_ok _ x0 x1 x2 x3 x4 x5 CK.out).mono ?_
    rintro e w4 ⟨X, dx, rfl, hX, hb4⟩
    have K4 := Aside0.mk (K3.out.trans (hb4.mono K3.out.size))
    have G4 := Aside0.mk ((hb4.block _ (blk_lt G3.out)).trans G3.out)
    have S4 := Aside0.mk ((hb4.block _ (blk_lt S3.out)).trans S3.out)
    have X4 := Aside0.mk hX
    have C4 := Aside0.mk (Kd.C_below C0.out K4.out)
    clear hb4 hX
    go_wp2_with fail
    have he := equal_c X4.out.C X4.out.cap C4.out hc (equal_f _ _ (supB_bytes x0 x1 x2 x3 x4 x5) HB.out)
    rw [supB_length, HL.out] at he
    refine he.mono ?_
    rintro e w5 ⟨rfl, hb5⟩
    have K5 := Aside0.mk (K4.out.trans (hb5.mono K4.out.size))
    have G5 := Aside0.mk ((hb5.block _ (blk_lt G4.out)).trans G4.out)
    have S5 := Aside0.mk ((hb5.block _ (blk_lt S4.out)).trans S4.out)
    clear hb5 he
    by_cases heq : supB x0 x1 x2 x3 x4 x5 = l
    case neg =>
      obtain ⟨rfl, rfl, rfl, rfl, rfl, rfl, rfl⟩ : y0 = 0 ∧ y1 = 0 ∧ y2 = 0 ∧ y3 = 0 ∧ y4 = 0 ∧ y5 = 0 ∧ ey = 50 := by
        rcases HY.out with ⟨_, h, _⟩ | ⟨_, h⟩
        · exact absurd h heq
        · exact h
      rw [decide_eq_false heq]
      clear heq
      obtain ⟨z0, z1, z2, z3, z4, z5⟩ := sup_cells G5.out
      have f0 := blk_frozen G5.out 0
      have f1 := blk_frozen G5.out 1
      have f2 := blk_frozen G5.out 2
      have f3 := blk_frozen G5.out 3
      have f4 := blk_frozen G5.out 4
      have f5 := blk_frozen G5.out 5
      go_wp2_with fail
      obtain ⟨hs, hk⟩ := set6 G5.out K5.out (Nat.le_refl _) (.int .i64 0) (.int .i64 0) (.int .i64 0) (.int .i64 0) (.int .i64 0) (.int .i64 0)
      refine bodyPost_ret (results_ct rfl _ _ w.heap.size 25 #[.int .i64 0, .int .i64 0, .int .i64 0, .int .i64 0, .int .i64 0, .int .i64 0] (0, 0) _ rfl hs Try.underlying25 rfl (by kernel_rfl)) rfl ?_
      exact ⟨rfl, hk⟩
    obtain ⟨rfl, rfl, rfl, rfl, rfl, rfl, rfl⟩ : y0 = x0 ∧ y1 = x1 ∧ y2 = x2 ∧ y3 = x3 ∧ y4 = x4 ∧ y5 = x5 ∧ ey = 0 := by
      rcases HY.out with ⟨_, _, h⟩ | ⟨h, _⟩
      · exact h
      · exact absurd ⟨by trivial, heq⟩ h
    rw [decide_eq_true heq]
    clear heq
    obtain ⟨s0, s1, s2, s3, s4, s5⟩ := sup_cells S5.out
    obtain ⟨z0, z1, z2, z3, z4, z5⟩ := sup_cells G5.out
    have f0 := blk_frozen G5.out 0
    have f1 := blk_frozen G5.out 1
    have f2 := blk_frozen G5.out 2
    have f3 := blk_frozen G5.out 3
    have f4 := blk_frozen G5.out 4
    have f5 := blk_frozen G5.out 5
    go_wp2_with fail
    obtain ⟨hs, hk⟩ := set6 G5.out K5.out (Nat.le_refl _) (.int .i64 y0) (.int .i64 y1) (.int .i64 y2) (.int .i64 y3) (.int .i64 y4) (.int .i64 y5)
    refine bodyPost_ret (results_ct rfl _ _ w.heap.size 25 #[.int .i64 y0, .int .i64 y1, .int .i64 y2, .int .i64 y3, .int .i64 y4, .int .i64 y5] (0, 0) _ rfl hs Try.underlying25 rfl (by kernel_rfl)) rfl ?_
    exact ⟨rfl, hk⟩
end Go.Proofs.Ytojolpamgijcbaa.Pure
