/- DiskStays: walked. -/
import Derived.Test.YthnadkdfgckijaaDkT
import Derived.Test.YthnadkdfgckijaaDkP
namespace Go.Proofs.Ythnadkdfgckijaa.Pure
open Go.RowKit Go.Proofs.Ythnadkdfgckijaa Go.Proofs.Ythnadkdfgckijaa.PAll Go.Proofs.Ythnadkdfgckijaa.Mem Go.Proofs.YthnadkdfgckijaaW.PrintWords Go.Proofs.YthnadkdfgckijaaW.PrintLast Go.Proofs.YthnadkdfgckijaaW.PrintMore
set_option linter.unusedVariables false
set_option linter.unusedSimpArgs false
set_option linter.unusedSectionVars false

/-- Blocks from a to b. -/
def Rng (a b : Nat) (k : Nat) : Prop := a ≤ k ∧ k < b
theorem rng_no {a b c d : Nat} (h : b ≤ c) : ∀ k, Rng c d k → ¬ Rng a b k := fun k q z => Nat.lt_irrefl _ (Nat.lt_of_lt_of_le z.2 (Nat.le_trans h q.1))
theorem rng_on {a b c d : Nat} (h : b ≤ c) : ∀ k, Rng a b k → ¬ Rng c d k := fun k q z => Nat.lt_irrefl _ (Nat.lt_of_lt_of_le q.2 (Nat.le_trans h z.1))
theorem own_no {w : World} {base c a b : Nat} {A : Option Addr} {l : List Int} (h : Own w base A c l) (hb : b ≤ base) : ∀ g, 0 < l.length → A = some ⟨g, 0, none⟩ → ¬ Rng a b g := fun g hp hA z => Nat.lt_irrefl _ (Nat.lt_of_lt_of_le z.2 (Nat.le_trans hb (own_lt h g hp hA).1))
theorem OpsAt.below {w w' : World} {A : Option Addr} {n : Nat} {L : List SOp} (h : OpsAt w A n L) (hb : Below w.heap.size w w') : OpsAt w' A n L := by
  obtain ⟨q1, q2, q3⟩ := h
  refine ⟨q1, q2, fun j hj => ?_⟩
  obtain ⟨ad, Ap, cp, hA, hO, p1, p2, p3, p4⟩ := q3 j hj
  exact ⟨ad, Ap, cp, hA, hO.below hb, p1, p2, Kd.C_below p3 hb, p4⟩
theorem crash_up {s : DS} (h : s.off = false) (ps : List Int) : crashS s ps = (0, fallsS s ps) := by
  unfold crashS
  rw [if_neg (by rw [h]; decide)]
theorem fallB_15 (B : List (List Int)) (P : List (Int × List Int)) (n : Nat) (h : P.length = n) : fallB B (P.zip (List.replicate n 15)) = flushB B P := by
  subst h
  induction P generalizing B with
  | nil => rfl
  | cons x P ih => exact ih (reachB B x 15)
theorem falls_nil {s : DS} : (fallsS s []).B = s.B := by
  show fallB s.B (s.P.zip []) = s.B
  rw [List.zip_nil_right]
  rfl
theorem falls_none {s : DS} (h : s.P = []) (ps : List Int) : (fallsS s ps).B = s.B := by
  show fallB s.B (s.P.zip ps) = s.B
  rw [h]
  rfl
theorem eq_own {w : World} {b1 b2 n d1 d2 : Nat} {Y1 Y2 : Option Addr} {a b : List Int} (h1 : Own w b1 Y1 d1 a) (h2 : Own w b2 Y2 d2 b) (e : a = b) (hn : a.length = n) (hb : Bytes a) :
    Calls Try.prog 20 #[.slice Y1 n d1, .slice Y2 n d2] w fun ex w' => ex = .returned (.bool true) ∧ Below w.heap.size w w' := by
  subst e
  have := equal_c h1.C h2.C hn hn (hn ▸ h1.cap) (hn ▸ h2.cap) hb hb
  rw [decide_eq_true rfl] at this
  exact this
def fif (n k : Nat) : List Int := (List.range n).map (fun j => if j < k then 15 else 0)
theorem fif_len (n k : Nat) : (fif n k).length = n := by simp [fif]
theorem fif_zero (n : Nat) : fif n 0 = zer n := by
  apply List.ext_getElem?
  intro j
  unfold fif zer
  rw [List.getElem?_map, List.getElem?_replicate]
  by_cases h : j < n
  · rw [List.getElem?_range h, if_pos h]; simp
  · rw [List.getElem?_eq_none (by simp; omega), if_neg h]; rfl
theorem fif_set (n k : Nat) (h : k < n) : (fif n k).set k 15 = fif n (k + 1) := by
  apply List.ext_getElem?
  intro j
  unfold fif
  rw [List.getElem?_set, List.getElem?_map, List.getElem?_map]
  by_cases e : k = j
  · subst e
    rw [if_pos rfl, if_pos (by simp; exact h), List.getElem?_range h, Option.map_some, if_pos (Nat.lt_succ_self _)]
  · rw [if_neg e]
    by_cases hj : j < n
    · rw [List.getElem?_range hj, Option.map_some, Option.map_some]
      congr 1
      by_cases h1 : j < k
      · rw [if_pos h1, if_pos (by omega)]
      · rw [if_neg h1, if_neg (by omega)]
    · rw [List.getElem?_eq_none (by simp; omega)]; rfl
theorem fif_all (n : Nat) : fif n n = List.replicate n 15 := by
  apply List.ext_getElem?
  intro j
  unfold fif
  rw [List.getElem?_map, List.getElem?_replicate]
  by_cases h : j < n
  · rw [List.getElem?_range h, if_pos h, Option.map_some, if_pos h]
  · rw [List.getElem?_eq_none (by simp; omega), if_neg h]; rfl
theorem Up.script (L : List SOp) : Up 120 (playS (L.take 120)) := by
  by_cases h : 120 ≤ L.length
  · exact Up.play L 120 h
  · have := Up.play L L.length (Nat.le_refl _)
    rw [List.take_length] at this
    rw [List.take_of_length_le (by omega)]
    exact ⟨this.off, this.armed, this.picks, this.B, by have := this.P; omega⟩
theorem pend_big {P : List (Int × List Int)} (h : P.length ≤ 120) : P.take (1048576 : Int).toNat = P := List.take_of_length_le (by show P.length ≤ 1048576; omega)
theorem flat_1024 {B : List (List Int)} (h : BlkOk B) (hl : B.length = 4) : B.flatten.length = 1024 := by rw [flat_len h, hl]
attribute [local go_sem high] cut22
set_option maxRecDepth 100000 in
set_option maxHeartbeats 16000000 in
theorem stays_c {w : World} {A Ax : Option Addr} {n c nx cx : Nat} {L : List SOp} {ps : List Int} (hL : OpsAt w A n L) (hc : n ≤ c) (hX : Kd.C (Kd.int .u8) w Ax nx ps) (hnx : ps.length = nx) (hcx : nx ≤ cx) : Calls Try.prog 5 #[.slice A n c, .slice Ax nx cx] w fun e w' => e = .returned (.bool true) ∧ Below w.heap.size w w' := by
  obtain ⟨S, hS⟩ : ∃ S, S = playS (L.take 120) := ⟨_, rfl⟩
  have UP := Aside0.mk (show Up 120 S from hS ▸ Up.script L)
  have PL := Aside0.mk (pl_le UP.out (Nat.le_refl _))
  have LA := Aside0.mk hL
  have LC := Aside0.mk hc
  have PX := Aside0.mk (F_arg hX)
  have PN := Aside0.mk hnx
  have PC := Aside0.mk hcx
  have K := Aside0.mk (Below.refl w.heap.size w)
  have HS := Aside0.mk hS
  clear hL hc hX hnx hcx hS
  go_enter Try.func5, Try.ntmps5
  go_wp2_with fail
  refine (played_c LA.out LC.out).mono ?_
  rintro e w1 ⟨ga, rfl, hD, hb⟩
  rw [← HS.out] at hD
  replace LA := Aside0.mk (LA.out.below hb)
  replace PX := Aside0.mk (Kd.F_below PX.out hb)
  replace K := Aside0.mk (K.out.trans (hb.mono K.out.size))
  have DA := Aside0.mk (hD.mono (V' := Rng w.heap.size w1.heap.size) (fun k q hl => ⟨q, hl⟩))
  have N1 := Aside0.mk (show w.heap.size ≤ w1.heap.size from hb.size)
  clear hD hb
  go_wp2_with fail
  refine (played_c LA.out LC.out).mono ?_
  rintro e w2 ⟨gb, rfl, hD, hb⟩
  rw [← HS.out] at hD
  replace LA := Aside0.mk (LA.out.below hb)
  replace PX := Aside0.mk (Kd.F_below PX.out hb)
  replace K := Aside0.mk (K.out.trans (hb.mono K.out.size))
  replace DA := Aside0.mk (DA.out.below hb)
  have DB := Aside0.mk (hD.mono (V' := Rng w1.heap.size w2.heap.size) (fun k q hl => ⟨q, hl⟩))
  have N2 := Aside0.mk (show w1.heap.size ≤ w2.heap.size from hb.size)
  clear hD hb
  go_wp2_with fail
  refine (played_c LA.out LC.out).mono ?_
  rintro e w3 ⟨gc, rfl, hD, hb⟩
  rw [← HS.out] at hD
  replace LA := Aside0.mk (LA.out.below hb)
  replace PX := Aside0.mk (Kd.F_below PX.out hb)
  replace K := Aside0.mk (K.out.trans (hb.mono K.out.size))
  replace DA := Aside0.mk (DA.out.below hb)
  replace DB := Aside0.mk (DB.out.below hb)
  have DC := Aside0.mk (hD.mono (V' := Rng w2.heap.size w3.heap.size) (fun k q hl => ⟨q, hl⟩))
  have N3 := Aside0.mk (show w2.heap.size ≤ w3.heap.size from hb.size)
  clear hD hb
  go_wp2_with fail
  clear LA LC
  have Z := Aside0.mk (Nat.le_refl w3.heap.size)
  refine (live_c w3).mono ?_
  rintro e w4 ⟨rfl, hb⟩
  replace PX := Aside0.mk (Kd.F_below PX.out hb)
  replace K := Aside0.mk (K.out.trans (hb.mono K.out.size))
  replace DA := Aside0.mk (DA.out.below hb)
  replace DB := Aside0.mk (DB.out.below hb)
  replace DC := Aside0.mk (DC.out.below hb)
  replace Z := Aside0.mk (Nat.le_trans Z.out hb.size)
  clear hb
  go_wp2_with fail
  have BK := Aside0.mk DA.out.ok.1
  refine (n_image DA.out (m := 1024) (by rw [UP.out.B]; decide) (by rw [UP.out.B])).mono ?_
  rintro e w5 ⟨Y1, d1, rfl, hO, hb⟩
  have O1 := Aside0.mk (own_lower hO Z.out)
  replace PX := Aside0.mk (Kd.F_below PX.out hb)
  replace K := Aside0.mk (K.out.trans (hb.mono K.out.size))
  replace DA := Aside0.mk (DA.out.below hb)
  replace DB := Aside0.mk (DB.out.below hb)
  replace DC := Aside0.mk (DC.out.below hb)
  replace Z := Aside0.mk (Nat.le_trans Z.out hb.size)
  clear hO hb
  go_wp2_with fail
  have HLN := Aside0.mk (show ∀ x ∈ S.P, x.2.length = 256 from fun x hx => (DA.out.ok.2.1 x hx).2.2.1)
  obtain ⟨N, hN⟩ : ∃ N, N = S.P.length := ⟨_, rfl⟩
  have HN := Aside0.mk hN
  have hNl : N ≤ 1000000 := by rw [hN]; exact PL.out
  refine (pending_c (dk_pends DA.out PL.out) PL.out HLN.out 1048576).mono ?_
  rintro e w6 ⟨A6, c6, rfl, _, _, hb⟩
  replace PX := Aside0.mk (Kd.F_below PX.out hb)
  replace K := Aside0.mk (K.out.trans (hb.mono K.out.size))
  replace DA := Aside0.mk (DA.out.below hb)
  replace DB := Aside0.mk (DB.out.below hb)
  replace DC := Aside0.mk (DC.out.below hb)
  replace Z := Aside0.mk (Nat.le_trans Z.out hb.size)
  replace O1 := Aside0.mk (own_below O1.out hb)
  clear hb
  rw [pend_big UP.out.P, ← hN]
  clear hN
  have hmk : ∀ W : World, (Instr.makeSlice 26 (.int .i64 (N : Int)) (.int .i64 (N : Int))).run Try.prog W = .ok (.slice (some ⟨W.heap.size, 0, none⟩) N N) (W.alloc (.cells (rowOf (.int .u8 0) N) 5)) := fun W => mk26n N hNl W
  go_wp2_with fail
  obtain ⟨w7, hw7⟩ : ∃ x, x = w6.alloc (Obj.cells (rowOf (Value.int IntKind.u8 0) N) 5) := ⟨_, rfl⟩
  have OA := Aside0.mk (show Own w7 w3.heap.size (some ⟨w6.heap.size, 0, none⟩) N (fif N 0) from by rw [hw7, fif_zero]; exact own_lower (own_new hNl) Z.out)
  have hb : Below w6.heap.size w6 w7 := by rw [hw7]; exact (Below.refl w6.heap.size w6).alloc (Nat.le_refl _) _
  have G1 := Aside0.mk (fun gq hp hq => Nat.ne_of_lt (own_lt O1.out gq hp hq).2)
  have ZA := Aside0.mk Z.out
  have W0A := Aside0.mk K.out.size
  have NL := Aside0.mk hNl
  replace PX := Aside0.mk (Kd.F_below PX.out hb)
  replace K := Aside0.mk (K.out.trans (hb.mono K.out.size))
  replace DA := Aside0.mk (DA.out.below hb)
  replace DB := Aside0.mk (DB.out.below hb)
  replace DC := Aside0.mk (DC.out.below hb)
  replace Z := Aside0.mk (Nat.le_trans Z.out hb.size)
  replace O1 := Aside0.mk (own_below O1.out hb)
  rw [← hw7]
  clear hw7 hb hmk hNl
  obtain ⟨gA, hgA⟩ : ∃ x, x = w6.heap.size := ⟨_, rfl⟩
  rw [← hgA] at OA G1 ZA W0A
  rw [← hgA]
  clear hgA
  go_loopg [40] N (fun q v w' => ∃ (k : Nat), v = .int .i64 (k : Int) ∧ Aside0 (k + q = N) ∧ Aside0 (Own w' w3.heap.size (some ⟨gA, 0, none⟩) N (fif N k)) ∧ Aside0 (Fr (· = gA) w7 w'))
  case atStart => exact ⟨0, rfl, ⟨Nat.zero_add _⟩, OA, ⟨Fr.refl _ _⟩⟩
  case round =>
    clear OA
    obtain ⟨k, rfl, HJ, JJ, FF⟩ := hrel
    by_cases hlt : k < N
    case pos =>
      have hgd : decide ((k : Int) < (N : Int)) = true := (di_t hlt).1
      have hgd2 : decide (k < N) = true := (di_t hlt).2
      have HN1 := Aside0.mk (st_n HJ.out hlt).1
      have HM := Aside0.mk (st_n HJ.out hlt).2
      have HV := Aside0.mk (stepv hlt (big_n NL.out))
      obtain ⟨c0, f0⟩ := own_cell JJ.out (show k < (fif N k).length by rw [fif_len]; exact hlt)
      have JN := Aside0.mk (own_set JJ.out (show k < (fif N k).length by rw [fif_len]; exact hlt) 15)
      rw [fif_set N k hlt] at JN
      have FN := Aside0.mk (FF.out.set (p := ⟨gA, k, none⟩) rfl (.int .u8 15))
      go_wp2_with fail
      go_roundg (gk - 1)
      case measure => exact HM.out
      case rel => exact ⟨k + 1, by first | exact HV.out | rfl, HN1, JN, FN⟩
    have hke : k = N := en_k HJ.out hlt
    clear hlt
    have hf := FF.out
    subst hke
    obtain ⟨hgd, hgd2⟩ := di_f (rfl : k = k)
    rw [fif_all] at JJ
    replace PX := Aside0.mk (F_fr PX.out hf (fun q hq e => by subst e; exact Nat.lt_irrefl _ (Nat.lt_of_lt_of_le hq W0A.out)))
    replace K := Aside0.mk (hf.below K.out (fun q e => by subst e; exact W0A.out) K.out.size)
    replace DA := Aside0.mk (DA.out.fr hf (fun q hq e => by subst e; exact Nat.lt_irrefl _ (Nat.lt_of_lt_of_le hq.2 (Nat.le_trans (Nat.le_trans N2.out N3.out) ZA.out))))
    replace DB := Aside0.mk (DB.out.fr hf (fun q hq e => by subst e; exact Nat.lt_irrefl _ (Nat.lt_of_lt_of_le hq.2 (Nat.le_trans N3.out ZA.out))))
    replace DC := Aside0.mk (DC.out.fr hf (fun q hq e => by subst e; exact Nat.lt_irrefl _ (Nat.lt_of_lt_of_le hq.2 ZA.out)))
    replace Z := Aside0.mk (Nat.le_trans Z.out hf.size)
    replace O1 := Aside0.mk (own_fr O1.out hf (fun q hp hq e => G1.out q hp hq e))
    clear hf FF
    have OA := Aside0.mk (show Own wr w3.heap.size (some ⟨gA, 0, none⟩) k (List.replicate k 15) from JJ.out)
    clear JJ
    go_wp2_with fail
    obtain ⟨Sa, hSa, ea⟩ : ∃ Sa, crashS S [] = (0, Sa) ∧ Sa.B = S.B := ⟨_, crash_up UP.out.off [], falls_nil⟩
    refine (n_crash DA.out (Kd.F_nil (Kd.int .u8) wr (fun _ => False)) rfl (Nat.le_refl 0) (fun q hq => hq.elim) hSa).mono ?_
    rintro e w9 ⟨rfl, hD, hf⟩
    replace PX := Aside0.mk (F_fr PX.out hf (fun q hq z => Nat.lt_irrefl _ (Nat.lt_of_lt_of_le hq z.1)))
    replace K := Aside0.mk (hf.below K.out (fun q hq => hq.1) K.out.size)
    replace DB := Aside0.mk (DB.out.fr hf (rng_no (Nat.le_refl _)))
    replace DC := Aside0.mk (DC.out.fr hf (rng_no N2.out))
    replace Z := Aside0.mk (Nat.le_trans Z.out hf.size)
    replace O1 := Aside0.mk (own_fr O1.out hf (own_no O1.out (Nat.le_trans N2.out N3.out)))
    replace OA := Aside0.mk (own_fr OA.out hf (own_no OA.out (Nat.le_trans N2.out N3.out)))
    replace DA := Aside0.mk hD
    clear hD hf
    go_wp2_with fail
    refine (n_image DA.out (m := 1024) (by rw [ea, UP.out.B]; decide) (by rw [ea, UP.out.B])).mono ?_
    rintro e w10 ⟨Y2, d2, rfl, hO, hb⟩
    rw [ea] at hO
    have O2 := Aside0.mk (own_lower hO Z.out)
    replace PX := Aside0.mk (Kd.F_below PX.out hb)
    replace K := Aside0.mk (K.out.trans (hb.mono K.out.size))
    replace DA := Aside0.mk (DA.out.below hb)
    replace DB := Aside0.mk (DB.out.below hb)
    replace DC := Aside0.mk (DC.out.below hb)
    replace Z := Aside0.mk (Nat.le_trans Z.out hb.size)
    replace O1 := Aside0.mk (own_below O1.out hb)
    replace OA := Aside0.mk (own_below OA.out hb)
    clear hO hb
    go_wp2_with fail
    refine (eq_own O2.out O1.out rfl (flat_1024 BK.out (by first | exact UP.out.B | exact FB4.out)) (flat_bytes BK.out)).mono ?_
    rintro e w11 ⟨rfl, hb⟩
    replace PX := Aside0.mk (Kd.F_below PX.out hb)
    replace K := Aside0.mk (K.out.trans (hb.mono K.out.size))
    replace DA := Aside0.mk (DA.out.below hb)
    replace DB := Aside0.mk (DB.out.below hb)
    replace DC := Aside0.mk (DC.out.below hb)
    replace Z := Aside0.mk (Nat.le_trans Z.out hb.size)
    replace O1 := Aside0.mk (own_below O1.out hb)
    replace OA := Aside0.mk (own_below OA.out hb)
    replace O2 := Aside0.mk (own_below O2.out hb)
    clear hb
    go_wp2_with fail
    clear O2 O1 DA
    clear ea hSa
    obtain ⟨T, hT, t1, t2, t3⟩ : ∃ T, flushS S = (0, T) ∧ T.off = false ∧ T.P = [] ∧ T.B = flushB S.B S.P := ⟨_, flush_up UP.out.off UP.out.armed, UP.out.off, rfl, rfl⟩
    refine (n_flush DB.out hT).mono ?_
    rintro e w12 ⟨rfl, hD, hf⟩
    replace PX := Aside0.mk (F_fr PX.out hf (fun q hq z => Nat.lt_irrefl _ (Nat.lt_of_lt_of_le hq (Nat.le_trans N1.out z.1))))
    replace K := Aside0.mk (hf.below K.out (fun q hq => Nat.le_trans N1.out hq.1) K.out.size)
    replace DC := Aside0.mk (DC.out.fr hf (rng_no (Nat.le_refl _)))
    replace Z := Aside0.mk (Nat.le_trans Z.out hf.size)
    replace OA := Aside0.mk (own_fr OA.out hf (own_no OA.out N3.out))
    replace DB := Aside0.mk hD
    have FB4 := Aside0.mk (show (flushB S.B S.P).length = 4 from by rw [flushB_len]; exact UP.out.B)
    have FK := Aside0.mk (show BlkOk (flushB S.B S.P) from t3 ▸ hD.ok.1)
    clear hD hf
    go_wp2_with fail
    refine (n_image DB.out (m := 1024) (by rw [t3, FB4.out]; decide) (by rw [t3, FB4.out])).mono ?_
    rintro e w13 ⟨Y3, d3, rfl, hO, hb⟩
    rw [t3] at hO
    have O3 := Aside0.mk (own_lower hO Z.out)
    replace PX := Aside0.mk (Kd.F_below PX.out hb)
    replace K := Aside0.mk (K.out.trans (hb.mono K.out.size))
    replace DB := Aside0.mk (DB.out.below hb)
    replace DC := Aside0.mk (DC.out.below hb)
    replace Z := Aside0.mk (Nat.le_trans Z.out hb.size)
    replace OA := Aside0.mk (own_below OA.out hb)
    clear hO hb
    go_wp2_with fail
    obtain ⟨Tb, hTb, eb⟩ : ∃ Tb, crashS T ps = (0, Tb) ∧ Tb.B = flushB S.B S.P := ⟨_, crash_up t1 ps, (falls_none t2 ps).trans t3⟩
    refine (n_crash DB.out (show Kd.F (Kd.int .u8) _ _ Ax nx ps from PX.out) PN.out PC.out (fun q hq z => Nat.lt_irrefl _ (Nat.lt_of_lt_of_le hq (Nat.le_trans N1.out z.1))) hTb).mono ?_
    rintro e w14 ⟨rfl, hD, hf⟩
    replace PX := Aside0.mk (F_fr PX.out hf (fun q hq z => Nat.lt_irrefl _ (Nat.lt_of_lt_of_le hq (Nat.le_trans N1.out z.1))))
    replace K := Aside0.mk (hf.below K.out (fun q hq => Nat.le_trans N1.out hq.1) K.out.size)
    replace DC := Aside0.mk (DC.out.fr hf (rng_no (Nat.le_refl _)))
    replace Z := Aside0.mk (Nat.le_trans Z.out hf.size)
    replace OA := Aside0.mk (own_fr OA.out hf (own_no OA.out N3.out))
    replace O3 := Aside0.mk (own_fr O3.out hf (own_no O3.out N3.out))
    replace DB := Aside0.mk hD
    clear hD hf
    go_wp2_with fail
    refine (n_image DB.out (m := 1024) (by rw [eb, FB4.out]; decide) (by rw [eb, FB4.out])).mono ?_
    rintro e w15 ⟨Y4, d4, rfl, hO, hb⟩
    rw [eb] at hO
    have O4 := Aside0.mk (own_lower hO Z.out)
    replace PX := Aside0.mk (Kd.F_below PX.out hb)
    replace K := Aside0.mk (K.out.trans (hb.mono K.out.size))
    replace DB := Aside0.mk (DB.out.below hb)
    replace DC := Aside0.mk (DC.out.below hb)
    replace Z := Aside0.mk (Nat.le_trans Z.out hb.size)
    replace OA := Aside0.mk (own_below OA.out hb)
    replace O3 := Aside0.mk (own_below O3.out hb)
    clear hO hb
    go_wp2_with fail
    refine (eq_own O4.out O3.out rfl (flat_1024 FK.out (by first | exact UP.out.B | exact FB4.out)) (flat_bytes FK.out)).mono ?_
    rintro e w16 ⟨rfl, hb⟩
    replace PX := Aside0.mk (Kd.F_below PX.out hb)
    replace K := Aside0.mk (K.out.trans (hb.mono K.out.size))
    replace DB := Aside0.mk (DB.out.below hb)
    replace DC := Aside0.mk (DC.out.below hb)
    replace Z := Aside0.mk (Nat.le_trans Z.out hb.size)
    replace OA := Aside0.mk (own_below OA.out hb)
    replace O3 := Aside0.mk (own_below O3.out hb)
    replace O4 := Aside0.mk (own_below O4.out hb)
    clear hb
    go_wp2_with fail
    clear O4 DB PX
    clear eb hTb t1 t2 t3 hT
    obtain ⟨Tc, hTc, ec⟩ : ∃ Tc, crashS S (List.replicate k 15) = (0, Tc) ∧ Tc.B = flushB S.B S.P := ⟨_, crash_up UP.out.off _, fallB_15 _ _ _ HN.out.symm⟩
    have AF := Aside0.mk (own_F OA.out)
    refine (n_crash DC.out (show Kd.F (Kd.int .u8) _ _ _ k _ from by have := AF.out; rwa [List.length_replicate] at this) (List.length_replicate ..) (Nat.le_refl _) (show ∀ q, OwnF (some ⟨gA, 0, none⟩) (List.replicate k 15) q → ¬ Rng w2.heap.size w3.heap.size q from fun q hq z => own_no OA.out (Nat.le_refl _) q hq.1 hq.2 z) hTc).mono ?_
    rintro e w17 ⟨rfl, hD, hf⟩
    replace K := Aside0.mk (hf.below K.out (fun q hq => Nat.le_trans (Nat.le_trans N1.out N2.out) hq.1) K.out.size)
    replace Z := Aside0.mk (Nat.le_trans Z.out hf.size)
    replace OA := Aside0.mk (own_fr OA.out hf (own_no OA.out (Nat.le_refl _)))
    replace O3 := Aside0.mk (own_fr O3.out hf (own_no O3.out (Nat.le_refl _)))
    replace DC := Aside0.mk hD
    clear hD hf
    go_wp2_with fail
    refine (n_image DC.out (m := 1024) (by rw [ec, FB4.out]; decide) (by rw [ec, FB4.out])).mono ?_
    rintro e w18 ⟨Y5, d5, rfl, hO, hb⟩
    rw [ec] at hO
    have O5 := Aside0.mk (own_lower hO Z.out)
    replace K := Aside0.mk (K.out.trans (hb.mono K.out.size))
    replace DC := Aside0.mk (DC.out.below hb)
    replace Z := Aside0.mk (Nat.le_trans Z.out hb.size)
    replace OA := Aside0.mk (own_below OA.out hb)
    replace O3 := Aside0.mk (own_below O3.out hb)
    clear hO hb
    go_wp2_with fail
    refine (eq_own O5.out O3.out rfl (flat_1024 FK.out (by first | exact UP.out.B | exact FB4.out)) (flat_bytes FK.out)).mono ?_
    rintro e w19 ⟨rfl, hb⟩
    replace K := Aside0.mk (K.out.trans (hb.mono K.out.size))
    replace DC := Aside0.mk (DC.out.below hb)
    replace Z := Aside0.mk (Nat.le_trans Z.out hb.size)
    replace OA := Aside0.mk (own_below OA.out hb)
    replace O3 := Aside0.mk (own_below O3.out hb)
    replace O5 := Aside0.mk (own_below O5.out hb)
    clear hb
    go_wp2_with fail
    go_ret
    exact ⟨rfl, K.out⟩
end Go.Proofs.Ythnadkdfgckijaa.Pure
