/- A torn write: which super counts then. -/
import Derived.Test.YtojolpamgijcbaaTorn
namespace Go.Proofs.Ytojolpamgijcbaa.Pure
open Go.RowKit Go.Proofs.Ytojolpamgijcbaa Go.Proofs.Ytojolpamgijcbaa.PAll Go.Proofs.Ytojolpamgijcbaa.PGt Go.Proofs.Ytojolpamgijcbaa.Mem Go.Proofs.YtojolpamgijcbaaW.PrintWords Go.Proofs.YtojolpamgijcbaaW.PrintLast Go.Proofs.YtojolpamgijcbaaW.PrintMore
set_option linter.unusedVariables false
set_option linter.unusedSimpArgs false

theorem ps_sup {a0 a1 a2 a3 a4 a5 y0 y1 y2 y3 y4 y5 ey : Int} (h : super_Check.f a0 a1 a2 a3 a4 a5 = some 0) (hp : PS (supB a0 a1 a2 a3 a4 a5) y0 y1 y2 y3 y4 y5 ey) : y0 = a0 ∧ y1 = a1 ∧ y2 = a2 ∧ y3 = a3 ∧ y4 = a4 ∧ y5 = a5 ∧ ey = 0 := by
  rcases hp with ⟨h1, h2, h3⟩ | ⟨_, _, _, _, _, _, _, hn⟩
  · obtain ⟨b0, b1, b2, b3, b4, b5⟩ := supB_get h2
    obtain ⟨d0, d1, d2, d3, d4, d5⟩ := supB_get h
    rw [h3] at b0 b1 b2 b3 b4 b5
    exact ⟨b0.symm.trans d0, b1.symm.trans d1, b2.symm.trans d2, b3.symm.trans d3, b4.symm.trans d4, b5.symm.trans d5, h1⟩
  · exact absurd rfl (hn a0 a1 a2 a3 a4 a5 h)
theorem ps_zero {y0 y1 y2 y3 y4 y5 ey : Int} (hp : PS (List.replicate 256 0) y0 y1 y2 y3 y4 y5 ey) : ey = 50 := by
  rcases hp with ⟨_, _, h3⟩ | ⟨h, _⟩
  · have e : (supB y0 y1 y2 y3 y4 y5)[0]? = some 97 := by
      unfold supB sealA supS supHd
      simp only [List.append_assoc]
      rfl
    rw [h3] at e
    rw [List.getElem?_replicate, if_pos (by decide)] at e
    cases e
  · exact h
/-- What else a torn block may be. -/
def OT (a0 : Int) (a n z : S6) (ez : Int) (r : S6) : Prop := (ez = 50 ∧ r = a) ∨ (ez = 0 ∧ z.v0 = a0 - 1 ∧ 1 < a0 ∧ r = a) ∨ (ez = 0 ∧ z = n ∧ n.v0 = a0 + 1 ∧ r = n)
theorem slot_def {e : Int} (h : 0 ≤ e) : slotI e = e % 2 := by unfold slotI; rw [if_neg (by omega)]
theorem bst_two (y z : S6) (ey ez : Int) : bst y z ey ez [0, 1] = stp y z ey ez (stp y z ey ez ⟨0, 0, 0, 0, 0, 0⟩ 0) 1 := rfl
theorem stp0 (y z : S6) (ey ez : Int) (b : S6) : stp y z ey ez b 0 = if ey = 0 ∧ slotI y.v0 = 0 ∧ y.v0 > b.v0 then y else b := rfl
theorem stp1 (y z : S6) (ey ez : Int) (b : S6) : stp y z ey ez b 1 = if ez = 0 ∧ slotI z.v0 = 1 ∧ z.v0 > b.v0 then z else b := rfl
theorem torn_one {a n z r : S6} {ez : Int} (h1 : 1 ≤ a.v0) (hs : slotI a.v0 ≠ 1) (h : OT a.v0 a n z ez r) : bst a z 0 ez [0, 1] = r := by
  have hd := slot_def (e := a.v0) (by omega)
  have hp : slotI a.v0 = 0 := by omega
  rw [bst_two, stp0, if_pos ⟨rfl, hp, h1⟩, stp1]
  rcases h with ⟨h, rfl⟩ | ⟨h, h2, h3, rfl⟩ | ⟨h, h2, h3, h4⟩
  · rw [if_neg (by omega)]
  · rw [if_neg (by omega)]
  · rw [← h2] at h3
    rw [h4, ← h2]
    have := slot_def (e := z.v0) (by omega)
    rw [if_pos ⟨h, by omega, by omega⟩]
theorem torn_two {a n z r : S6} {ez : Int} (h1 : 1 ≤ a.v0) (hs : slotI a.v0 = 1) (h : OT a.v0 a n z ez r) : bst z a ez 0 [0, 1] = r := by
  have hd := slot_def (e := a.v0) (by omega)
  rw [bst_two, stp0, stp1]
  rcases h with ⟨h, rfl⟩ | ⟨h, h2, h3, rfl⟩ | ⟨h, h2, h3, h4⟩
  · rw [if_neg (show ¬ (ez = 0 ∧ _) by omega)]
    exact if_pos ⟨rfl, hs, h1⟩
  · have := slot_def (e := z.v0) (by omega)
    rw [if_pos (show ez = 0 ∧ slotI z.v0 = 0 ∧ z.v0 > 0 from ⟨h, by omega, by omega⟩)]
    exact if_pos ⟨rfl, hs, by omega⟩
  · rw [← h2] at h3
    rw [h4, ← h2]
    have := slot_def (e := z.v0) (by omega)
    rw [if_pos (show ez = 0 ∧ slotI z.v0 = 0 ∧ z.v0 > 0 from ⟨h, by omega, by omega⟩)]
    exact if_neg (by omega)
/-- What the other slot holds before the write. -/
def Other (a0 a1 a2 a3 a4 a5 : Int) (o : List Int) : Prop := o = List.replicate 256 0 ∨ (1 < a0 ∧ o = supB (a0 - 1) a1 a2 a3 a4 a5)
theorem other_far {a0 a1 a2 a3 a4 a5 : Int} {o : List Int} (h : Other a0 a1 a2 a3 a4 a5 o) (i : Nat) (h1 : 64 ≤ i) (h2 : i < 256) : o.getD i 0 = 0 := by
  rcases h with rfl | ⟨_, rfl⟩
  · rw [List.getD_eq_getElem?_getD, List.getElem?_replicate, if_pos h2]; rfl
  · exact supB_far _ _ _ _ _ _ i h1 h2
theorem other_len {a0 a1 a2 a3 a4 a5 : Int} {o : List Int} (h : Other a0 a1 a2 a3 a4 a5 o) : o.length = 256 := by
  rcases h with rfl | ⟨_, rfl⟩
  · exact List.length_replicate
  · exact supB_length _ _ _ _ _ _
theorem other_bytes {a0 a1 a2 a3 a4 a5 : Int} {o : List Int} (h : Other a0 a1 a2 a3 a4 a5 o) : Bytes o := by
  rcases h with rfl | ⟨_, rfl⟩
  · exact rep_bytes _
  · exact supB_bytes _ _ _ _ _ _
theorem torn_calls {a0 a1 a2 a3 a4 a5 n0 n1 n2 n3 n4 n5 : Int} {fo : List Int} {r : S6} (h0 : super_Check.f a0 a1 a2 a3 a4 a5 = some 0) (h1 : super_Check.f n0 n1 n2 n3 n4 n5 = some 0) (hn : n0 = a0 + 1) (hfo : (fo = supB n0 n1 n2 n3 n4 n5 ∧ r = ⟨n0, n1, n2, n3, n4, n5⟩) ∨ (Other a0 a1 a2 a3 a4 a5 fo ∧ r = ⟨a0, a1, a2, a3, a4, a5⟩)) :
    (slotI a0 ≠ 1 → ∀ {w : World} {A B : Option Addr} {ca cb : Nat}, Kd.C (Kd.int .u8) w A (supB a0 a1 a2 a3 a4 a5).length (supB a0 a1 a2 a3 a4 a5) → (supB a0 a1 a2 a3 a4 a5).length ≤ ca → Kd.C (Kd.int .u8) w B fo.length fo → fo.length ≤ cb → Calls Try.prog 23 #[.slice A 256 ca, .slice B 256 cb] w fun e w' => e = .returned (.tuple #[.agg r.cs, .int .i64 0]) ∧ Below w.heap.size w w') ∧
    (slotI a0 = 1 → ∀ {w : World} {A B : Option Addr} {ca cb : Nat}, Kd.C (Kd.int .u8) w A (supB a0 a1 a2 a3 a4 a5).length (supB a0 a1 a2 a3 a4 a5) → (supB a0 a1 a2 a3 a4 a5).length ≤ ca → Kd.C (Kd.int .u8) w B fo.length fo → fo.length ≤ cb → Calls Try.prog 23 #[.slice B 256 cb, .slice A 256 ca] w fun e w' => e = .returned (.tuple #[.agg r.cs, .int .i64 0]) ∧ Below w.heap.size w w') := by
  have k0 := (chk_ok h0).2.1
  have k1 := (chk_ok h1).2.1
  have hlen : fo.length = 256 := by
    rcases hfo with ⟨rfl, _⟩ | ⟨h, _⟩
    · exact supB_length _ _ _ _ _ _
    · exact other_len h
  have hby : Bytes fo := by
    rcases hfo with ⟨rfl, _⟩ | ⟨h, _⟩
    · exact supB_bytes _ _ _ _ _ _
    · exact other_bytes h
  obtain ⟨y0, y1, y2, y3, y4, y5, ey, py, ry⟩ := parse_all (supB a0 a1 a2 a3 a4 a5) (supB_bytes _ _ _ _ _ _) (by rw [supB_length]; decide)
  obtain ⟨e0, e1, e2, e3, e4, e5, e6⟩ := ps_sup h0 py
  subst e0 e1 e2 e3 e4 e5 e6
  obtain ⟨z0, z1, z2, z3, z4, z5, ez, pz, rz⟩ := parse_all fo hby (by omega)
  have hOT : OT y0 ⟨y0, y1, y2, y3, y4, y5⟩ ⟨n0, n1, n2, n3, n4, n5⟩ ⟨z0, z1, z2, z3, z4, z5⟩ ez r := by
    rcases hfo with ⟨rfl, hr⟩ | ⟨h | ⟨hlt, h⟩, hr⟩
    · obtain ⟨d0, d1, d2, d3, d4, d5, d6⟩ := ps_sup h1 pz
      subst d0 d1 d2 d3 d4 d5
      exact .inr (.inr ⟨d6, rfl, hn, hr⟩)
    · subst h
      exact .inl ⟨ps_zero pz, hr⟩
    · subst h
      obtain ⟨d0, _, _, _, _, _, d6⟩ := ps_sup (prev_ok h0 hlt) pz
      exact .inr (.inl ⟨d6, d0, hlt, hr⟩)
  have hr0 : r.v0 ≠ 0 := by
    rcases hfo with ⟨_, rfl⟩ | ⟨_, rfl⟩
    · show n0 ≠ 0; omega
    · show y0 ≠ 0; omega
  refine ⟨fun hs {w A B ca cb} hA hca hB hcb => ?_, fun hs {w A B ca cb} hA hca hB hcb => ?_⟩
  · have := choose_c (y := ⟨y0, y1, y2, y3, y4, y5⟩) (z := ⟨z0, z1, z2, z3, z4, z5⟩) hA hca hB hcb ry rz (torn_one (a := ⟨y0, y1, y2, y3, y4, y5⟩) k0 hs hOT) (.inr ⟨hr0, rfl⟩)
    rwa [supB_length, hlen] at this
  · have := choose_c (y := ⟨z0, z1, z2, z3, z4, z5⟩) (z := ⟨y0, y1, y2, y3, y4, y5⟩) hB hcb hA hca rz ry (torn_two (a := ⟨y0, y1, y2, y3, y4, y5⟩) k0 hs hOT) (.inr ⟨hr0, rfl⟩)
    rwa [supB_length, hlen] at this
end Go.Proofs.Ytojolpamgijcbaa.Pure
