/- A disk that is new; the chapter's example: walked. -/
import Derived.Test.YthnadkdfgckijaaDkF
import Derived.Test.YthnadkdfgckijaaDkE
import Derived.Test.YthnadkdfgckijaaDkR
namespace Go.Proofs.Ythnadkdfgckijaa.Pure
open Go.RowKit Go.Proofs.Ythnadkdfgckijaa Go.Proofs.Ythnadkdfgckijaa.PAll Go.Proofs.Ythnadkdfgckijaa.Mem Go.Proofs.YthnadkdfgckijaaW.PrintWords Go.Proofs.YthnadkdfgckijaaW.PrintLast Go.Proofs.YthnadkdfgckijaaW.PrintMore
set_option linter.unusedVariables false
set_option linter.unusedSimpArgs false
set_option linter.unusedSectionVars false

/-- Where a row lies. -/
def OwnF (A : Option Addr) (l : List Int) (k : Nat) : Prop := 0 < l.length ∧ A = some ⟨k, 0, none⟩
theorem own_F {w : World} {base c : Nat} {A : Option Addr} {l : List Int} (h : Own w base A c l) : Kd.F (Kd.int .u8) w (OwnF A l) A l.length l := fun W' hW =>
  (own_kept h (fun g hp hA => hW g ⟨hp, hA⟩ (own_lt h g hp hA).2)).C
theorem ownF_lt {w : World} {base c : Nat} {A : Option Addr} {l : List Int} (h : Own w base A c l) : ∀ k, OwnF A l k → base ≤ k ∧ k < w.heap.size := fun k q => own_lt h k q.1 q.2
theorem blk_F {w : World} {g : Nat} {l : List Int} (h : w.heap[g]? = some (.cells (encs (Value.int .u8) l).toArray 5 (0, 0))) (hn : l.length = l.length) (hm : l.length ≤ 9223372036854775807) : Kd.F (Kd.int .u8) w (· = g) (some ⟨g, 0, none⟩) l.length l := fun W' hW =>
  blk_C (enc := Value.int .u8) (h1 := fun _ => rfl) ((hW g rfl (blk_lt h)).trans h) (by rw [List.drop_zero]; exact List.take_of_length_le (by simp [encs])) hm
/-- A disk that lies within V. -/
def Dk (w : World) (g : Nat) (s : DS) (V : Nat → Prop) : Prop := ∃ U : Nat → Prop, DK w g U s ∧ ∀ k, U k → V k
theorem Dk.below {w w' : World} {g : Nat} {s : DS} {V : Nat → Prop} (h : Dk w g s V) (hb : Below w.heap.size w w') : Dk w' g s V := by
  obtain ⟨U, hU, h0⟩ := h
  exact ⟨U, hU.below hb, h0⟩
theorem Dk.fr {w w' : World} {g : Nat} {s : DS} {V F : Nat → Prop} (h : Dk w g s V) (hb : Fr F w w') (hn : ∀ k, V k → ¬ F k) : Dk w' g s V := by
  obtain ⟨U, hU, h0⟩ := h
  exact ⟨U, hU.fr hb (fun k q => hn k (h0 k q)), h0⟩
theorem Dk.mono {w : World} {g : Nat} {s : DS} {V V' : Nat → Prop} (h : Dk w g s V) (hV : ∀ k, V k → k < w.heap.size → V' k) : Dk w g s V' := by
  obtain ⟨U, hU, h0⟩ := h
  exact ⟨U, hU, fun k q => hV k (h0 k q) (hU.lt k q)⟩
section
variable {w w1 : World} {g : Nat} {s : DS} {V : Nat → Prop}
/-- What a write of a new row does to a disk. -/
theorem n_write (h : Dk w g s V) (hb : Below w.heap.size w w1) (hV : ∀ k, w.heap.size ≤ k → V k) (i : Int) {n c : Nat} {A : Option Addr} {b : List Int} (hO : Own w1 w.heap.size A c b) (hn : b.length = n) (hby : Bytes b) (hPl : s.P.length ≤ 1000000) {r : Int} {s' : DS} (hr : writeS s i b = (r, s')) :
    Calls Try.prog 16 #[.pointer (some ⟨g, 0, none⟩), .int .i64 i, .slice A n c] w1 fun ex w' => ex = .returned (.int .i64 r) ∧ Dk w' g s' V ∧ Fr V w1 w' := by
  obtain ⟨U, hU, h0⟩ := h
  subst hn
  refine (dk_write (hU.below hb) i rfl hby (own_F hO) hO.cap (fun k q z => Nat.lt_irrefl _ (Nat.lt_of_lt_of_le (hU.lt k z) (ownF_lt hO k q).1)) hPl).mono ?_
  rintro e w' ⟨rfl, hf, U', hD, hU'⟩
  rw [hr] at hD ⊢
  exact ⟨rfl, ⟨U', hD, fun k q => (hU' k q).elim (h0 k) (fun z => hV k (Nat.le_trans hb.size z))⟩, hf.mono h0⟩
theorem n_flush (h : Dk w g s V) {r : Int} {s' : DS} (hr : flushS s = (r, s')) : Calls Try.prog 18 #[.pointer (some ⟨g, 0, none⟩)] w fun ex w' => ex = .returned (.int .i64 r) ∧ Dk w' g s' V ∧ Fr V w w' := by
  obtain ⟨U, hU, h0⟩ := h
  refine (dk_flush hU).mono ?_
  rintro e w' ⟨rfl, hD, hf⟩
  rw [hr] at hD ⊢
  exact ⟨rfl, ⟨U, hD, h0⟩, hf.mono h0⟩
theorem n_crash (h : Dk w g s V) {UX : Nat → Prop} {ps : List Int} {Ax : Option Addr} {n cx : Nat} (hX : Kd.F (Kd.int .u8) w UX Ax n ps) (hn : ps.length = n) (hcx : n ≤ cx) (hUX : ∀ k, UX k → ¬ V k) {r : Int} {s' : DS} (hr : crashS s ps = (r, s')) :
    Calls Try.prog 23 #[.pointer (some ⟨g, 0, none⟩), .slice Ax n cx] w fun ex w' => ex = .returned (.int .i64 r) ∧ Dk w' g s' V ∧ Fr V w w' := by
  obtain ⟨U, hU, h0⟩ := h
  subst hn
  refine (dk_crash hU hX hcx (fun k q z => hUX k q (h0 k z))).mono ?_
  rintro e w' ⟨rfl, hD, hf⟩
  rw [hr] at hD ⊢
  exact ⟨rfl, ⟨U, hD, h0⟩, hf.mono h0⟩
theorem n_restart (h : Dk w g s V) {r : Int} {s' : DS} (hr : restartS s = (r, s')) : Calls Try.prog 30 #[.pointer (some ⟨g, 0, none⟩)] w fun ex w' => ex = .returned (.int .i64 r) ∧ Dk w' g s' V ∧ Fr V w w' := by
  obtain ⟨U, hU, h0⟩ := h
  refine (dk_restart hU).mono ?_
  rintro e w' ⟨rfl, hD, hf⟩
  rw [hr] at hD ⊢
  exact ⟨rfl, ⟨U, hD, h0⟩, hf.mono h0⟩
theorem n_on (h : Dk w g s V) {b : Bool} (hr : (!s.off) = b) : Calls Try.prog 31 #[.pointer (some ⟨g, 0, none⟩)] w fun ex w' => ex = .returned (.bool b) ∧ Below w.heap.size w w' := by
  obtain ⟨U, hU, h0⟩ := h
  rw [← hr]
  exact dk_on hU
theorem n_len (h : Dk w g s V) : Calls Try.prog 32 #[.pointer (some ⟨g, 0, none⟩)] w fun ex w' => ex = .returned (.int .i64 (s.B.length : Int)) ∧ Below w.heap.size w w' := by
  obtain ⟨U, hU, h0⟩ := h
  exact dk_len hU
theorem n_read (h : Dk w g s V) (i : Int) (hPl : s.P.length ≤ 1000000) {r : Int} {b : List Int} (hr : readS s i = (r, b)) : Calls Try.prog 19 #[.pointer (some ⟨g, 0, none⟩), .int .i64 i] w fun e w' => ∃ Y yd, e = .returned (.tuple #[.slice Y b.length yd, .int .i64 r]) ∧ Own w' w.heap.size Y yd b ∧ Below w.heap.size w w' := by
  obtain ⟨U, hU, h0⟩ := h
  have := dk_read hU i hPl
  rw [hr] at this
  exact this
end
theorem fillL_get (c : Int) (j : Nat) (h : j < 256) : (fillL c)[j]? = some ((c + (j : Int) / 64) % 256) := by
  unfold fillL fillK fillG
  simp only [List.getElem?_map, List.getElem?_range h, Option.map_some, if_pos h]
theorem write_up {s : DS} {i : Int} {b : List Int} (h : placeS s i = 0) (hb : b.length = 256) (ha : s.armed = 0) : writeS s i b = (0, { s with P := s.P ++ [(i, b)], ops := wrap64 (s.ops + 1) }) := by
  unfold writeS
  rw [if_neg (by rw [h]; decide), if_neg (by rw [hb]; decide)]
  have e : goesS { s with P := s.P ++ [(i, b)] } = (false, { s with P := s.P ++ [(i, b)], ops := wrap64 (s.ops + 1) }) := by
    unfold goesS
    exact if_pos ha
  show ((if (goesS { s with P := s.P ++ [(i, b)] }).1 = true then (5 : Int) else 0), (goesS { s with P := s.P ++ [(i, b)] }).2) = _
  rw [e]
  rfl
theorem flush_up {s : DS} (h : s.off = false) (ha : s.armed = 0) : flushS s = (0, { s with B := flushB s.B s.P, P := [], ops := wrap64 (s.ops + 1) }) := by
  unfold flushS
  rw [if_neg (by rw [h]; decide)]
  have e : goesS s = (false, { s with ops := wrap64 (s.ops + 1) }) := by
    unfold goesS
    exact if_pos ha
  show (if (goesS s).1 = true then (5, (goesS s).2) else (0, { (goesS s).2 with B := flushB (goesS s).2.B (goesS s).2.P, P := [] })) = _
  rw [e]
  rfl
def liveD (P : List (Int × List Int)) (ops : Int) : DS := { B := [zer 256, zer 256], P := P, off := false, ops := ops, armed := 0, picks := [] }
theorem live0 : newS 2 = liveD [] 0 := rfl
theorem live1 : writeS (liveD [] 0) 0 (fillL 10) = (0, liveD [(0, fillL 10)] 1) := (write_up (show placeS (liveD [] 0) 0 = 0 by decide) (fillL_len _) rfl).trans (by rw [show wrap64 ((liveD [] 0).ops + 1) = 1 from w64id (by decide) (by decide)]; rfl)
theorem live2 : writeS (liveD [(0, fillL 10)] 1) 0 (fillL 50) = (0, liveD [(0, fillL 10), (0, fillL 50)] 2) := (write_up (show placeS (liveD [(0, fillL 10)] 1) 0 = 0 from rfl) (fillL_len _) rfl).trans (by rw [show wrap64 ((liveD [(0, fillL 10)] 1).ops + 1) = 2 from w64id (by decide) (by decide)]; rfl)
theorem live3 : crashS (liveD [(0, fillL 10), (0, fillL 50)] 2) [15, 1] = (0, { B := [mix (fillL 10) (fillL 50) 1, zer 256], P := [], off := true, ops := 2, armed := 0, picks := [] }) := by
  have e : fallB [zer 256, zer 256] [((0, fillL 10), 15), ((0, fillL 50), 1)] = [mix (fillL 10) (fillL 50) 1, zer 256] := by
    show reachB (reachB [zer 256, zer 256] (0, fillL 10) 15) (0, fillL 50) 1 = _
    have e1 : reachB [zer 256, zer 256] (0, fillL 10) 15 = [fillL 10, zer 256] := by
      show [mix (zer 256) (fillL 10) 15, zer 256] = _
      rw [mix_15 (fillL_len _) (zer_len _)]
    rw [e1]
    rfl
  show (0, fallsS (liveD [(0, fillL 10), (0, fillL 50)] 2) [15, 1]) = _
  unfold fallsS
  rw [show fallB (liveD [(0, fillL 10), (0, fillL 50)] 2).B ((liveD [(0, fillL 10), (0, fillL 50)] 2).P.zip [15, 1]) = _ from e]
  rfl
theorem live4 : restartS { B := [mix (fillL 10) (fillL 50) 1, zer 256], P := [], off := true, ops := 2, armed := 0, picks := [] } = (0, { B := [mix (fillL 10) (fillL 50) 1, zer 256], P := [], off := false, ops := 2, armed := 0, picks := [] }) := rfl
theorem live5 : readS { B := [mix (fillL 10) (fillL 50) 1, zer 256], P := [], off := false, ops := 2, armed := 0, picks := [] } 0 = (0, mix (fillL 10) (fillL 50) 1) := rfl
theorem live6 : (mix (fillL 10) (fillL 50) 1).length = 256 ∧ (mix (fillL 10) (fillL 50) 1)[0]? = some 50 ∧ (mix (fillL 10) (fillL 50) 1)[64]? = some 11 ∧ (mix (fillL 10) (fillL 50) 1)[255]? = some 13 := by
  refine ⟨mix_len (fillL_len _) (fillL_len _) _, ?_, ?_, ?_⟩
  · rw [mix_get (fillL_len _) (fillL_len _) _ _ (by decide), if_pos (by decide +kernel), fillL_get _ _ (by decide)]; rfl
  · rw [mix_get (fillL_len _) (fillL_len _) _ _ (by decide), if_neg (by decide +kernel), fillL_get _ _ (by decide)]; rfl
  · rw [mix_get (fillL_len _) (fillL_len _) _ _ (by decide), if_neg (by decide +kernel), fillL_get _ _ (by decide)]; rfl
set_option maxRecDepth 100000 in
set_option maxHeartbeats 16000000 in
theorem live_c (w : World) : Calls Try.prog 15 #[] w fun e w' => e = .returned (.bool true) ∧ Below w.heap.size w w' := by
  have HV := Aside0.mk (show ∀ W : World, w.heap.size ≤ W.heap.size → ∀ k, W.heap.size ≤ k → w.heap.size ≤ k from fun W h k q => Nat.le_trans h q)
  go_enter Try.func15, Try.ntmps15
  go_wp2_with fail
  refine (new_ok w 2 (by decide) (by decide)).mono ?_
  rintro e w1 ⟨g, rfl, hg, hD, hb⟩
  rw [live0] at hD
  have D1 := Aside0.mk (show Dk w1 g (liveD [] 0) (fun k => w.heap.size ≤ k) from ⟨_, hD, fun k q => q.1⟩)
  have K1 := Aside0.mk hb
  clear hg hD hb
  go_wp2_with fail
  refine (filled_c w1 10).mono ?_
  rintro e w2 ⟨gY, rfl, hO, hb⟩
  have F2 := Aside0.mk hO
  have B2 := Aside0.mk hb
  clear hO hb
  go_wp2_with fail
  refine (n_write D1.out B2.out (HV.out w1 K1.out.size) 0 F2.out (fillL_len _) (fillL_bytes _) (by decide) live1).mono ?_
  rintro e w3 ⟨rfl, hD, hf⟩
  have D3 := Aside0.mk hD
  have K3 := Aside0.mk (hf.below (K1.out.trans (B2.out.mono K1.out.size)) (fun k q => q) (Nat.le_trans K1.out.size B2.out.size))
  clear hD hf D1 K1 F2 B2
  go_wp2_with fail
  refine (filled_c w3 50).mono ?_
  rintro e w4 ⟨gZ, rfl, hO, hb⟩
  have F4 := Aside0.mk hO
  have B4 := Aside0.mk hb
  clear hO hb
  go_wp2_with fail
  refine (n_write D3.out B4.out (HV.out w3 K3.out.size) 0 F4.out (fillL_len _) (fillL_bytes _) (by decide) live2).mono ?_
  rintro e w5 ⟨rfl, hD, hf⟩
  have D5 := Aside0.mk hD
  have K5 := Aside0.mk (hf.below (K3.out.trans (B4.out.mono K3.out.size)) (fun k q => q) (Nat.le_trans K3.out.size B4.out.size))
  clear hD hf D3 K3 F4 B4
  go_wp2_with fail
  have X6 := Aside0.mk (heap_new w5 (.cells #[.int .u8 15, .int .u8 1] 5))
  have B6 := (Below.refl w5.heap.size w5).alloc (Nat.le_refl _) (.cells #[.int .u8 15, .int .u8 1] 5)
  have D6 := Aside0.mk ((D5.out.mono (V' := fun k => w.heap.size ≤ k ∧ k ≠ w5.heap.size) (fun k q hl => ⟨q, Nat.ne_of_lt hl⟩)).below B6)
  have K6 := Aside0.mk (K5.out.trans (B6.mono K5.out.size))
  obtain ⟨w6, hw6⟩ : ∃ x, x = w5.alloc (Obj.cells #[Value.int IntKind.u8 15, Value.int IntKind.u8 1] 5) := ⟨_, rfl⟩
  obtain ⟨gP, hgP⟩ : ∃ x, x = w5.heap.size := ⟨_, rfl⟩
  rw [← hw6, ← hgP] at X6
  rw [← hw6] at D6 K6
  rw [← hgP] at D6
  rw [← hw6, ← hgP]
  clear hw6 hgP B6 D5 K5
  have XF := Aside0.mk (blk_F X6.out (l := [15, 1]) rfl (by decide))
  refine (n_crash D6.out XF.out rfl (by decide) (fun k e q => q.2 e) live3).mono ?_
  rintro e w7 ⟨rfl, hD, hf⟩
  have D7 := Aside0.mk (hD.mono (V' := fun k => w.heap.size ≤ k) (fun k q _ => q.1))
  have K7 := Aside0.mk (hf.below K6.out (fun k q => q.1) K6.out.size)
  clear hD hf D6 K6 XF X6
  go_wp2_with fail
  refine (n_on D7.out (b := false) rfl).mono ?_
  rintro e w8 ⟨rfl, hb⟩
  have D8 := Aside0.mk (D7.out.below hb)
  have K8 := Aside0.mk (K7.out.trans (hb.mono K7.out.size))
  clear hb D7 K7
  go_wp2_with fail
  refine (n_restart D8.out live4).mono ?_
  rintro e w9 ⟨rfl, hD, hf⟩
  have D9 := Aside0.mk hD
  have K9 := Aside0.mk (hf.below K8.out (fun k q => q) K8.out.size)
  clear hD hf D8 K8
  go_wp2_with fail
  refine (n_read D9.out 0 (by decide) live5).mono ?_
  rintro e wA ⟨Y, yd, rfl, hO, hb⟩
  have KA := Aside0.mk (K9.out.trans (hb.mono K9.out.size))
  obtain ⟨LL, e0, e64, e255⟩ := live6
  obtain ⟨L, hL⟩ : ∃ L, L = mix (fillL 10) (fillL 50) 1 := ⟨_, rfl⟩
  rw [← hL] at hO LL e0 e64 e255 ⊢
  obtain ⟨gy, cur, rfl, _, _, _⟩ := hO.blk (by rw [LL]; decide)
  have c0 := (own_cell hO (k := 0) (by rw [LL]; decide)).1
  have c64 := (own_cell hO (k := 64) (by rw [LL]; decide)).1
  have c255 := (own_cell hO (k := 255) (by rw [LL]; decide)).1
  rw [show L[0]'(by rw [LL]; decide) = 50 from (List.getElem?_eq_some_iff.1 e0).2] at c0
  rw [show L[64]'(by rw [LL]; decide) = 11 from (List.getElem?_eq_some_iff.1 e64).2] at c64
  rw [show L[255]'(by rw [LL]; decide) = 13 from (List.getElem?_eq_some_iff.1 e255).2] at c255
  rw [LL]
  clear hL e0 e64 e255 hO hb D9 K9 LL HV
  go_wp2_with fail
  go_ret
  exact ⟨rfl, KA.out⟩
end Go.Proofs.Ythnadkdfgckijaa.Pure
