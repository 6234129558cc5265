/- Which super counts, of any two blocks. -/
import Derived.Test.YtojolpamgijcbaaCh3
import Derived.Laws.BitsAllLaws
import Derived.Laws.Bits64
namespace Go.Proofs.Ytojolpamgijcbaa.Pure
open Go.RowKit Go.Proofs.Ytojolpamgijcbaa Go.Proofs.Ytojolpamgijcbaa.PAll Go.Proofs.Ytojolpamgijcbaa.PGt Go.Proofs.Ytojolpamgijcbaa.Mem Go.Proofs.YtojolpamgijcbaaW.PrintWords Go.Proofs.YtojolpamgijcbaaW.PrintLast Go.Proofs.YtojolpamgijcbaaW.PrintMore
set_option linter.unusedVariables false
set_option linter.unusedSimpArgs false

/-- What the code's choosing comes to is what the document's answer chooses. -/
theorem ch_eq {la lb : List Int} {y0 y1 y2 y3 y4 y5 ey z0 z1 z2 z3 z4 z5 ez : Int} (hy : PS la y0 y1 y2 y3 y4 y5 ey) (hz : PS lb z0 z1 z2 z3 z4 z5 ez) {r0 r1 r2 r3 r4 r5 er : Int} {one two : Bool} (h : ChIs y0 y1 y2 y3 y4 y5 ey z0 z1 z2 z3 z4 z5 ez r0 r1 r2 r3 r4 r5 er one two) :
    bst ⟨y0, y1, y2, y3, y4, y5⟩ ⟨z0, z1, z2, z3, z4, z5⟩ ey ez [0, 1] = ⟨r0, r1, r2, r3, r4, r5⟩ ∧ (((⟨r0, r1, r2, r3, r4, r5⟩ : S6) = ⟨0, 0, 0, 0, 0, 0⟩ ∧ er = 50) ∨ (r0 ≠ 0 ∧ er = 0)) := by
  have py : ey = 0 → 1 ≤ y0 := fun h0 => by
    rcases hy with ⟨_, h1, _⟩ | ⟨h1, _⟩
    · exact (chk_ok h1).2.1
    · omega
  have pz : ez = 0 → 1 ≤ z0 := fun h0 => by
    rcases hz with ⟨_, h1, _⟩ | ⟨h1, _⟩
    · exact (chk_ok h1).2.1
    · omega
  obtain ⟨h1, h2, h3⟩ := h
  have e1 : stp ⟨y0, y1, y2, y3, y4, y5⟩ ⟨z0, z1, z2, z3, z4, z5⟩ ey ez ⟨0, 0, 0, 0, 0, 0⟩ 0 = if one = true then ⟨y0, y1, y2, y3, y4, y5⟩ else ⟨0, 0, 0, 0, 0, 0⟩ := by
    unfold stp
    simp only [if_true]
    by_cases c : ey = 0 ∧ slotI y0 = 0
    · rw [if_pos (show one = true by rw [h1]; exact decide_eq_true c), if_pos ⟨c.1, c.2, by have := py c.1; omega⟩]
    · rw [if_neg (show ¬ one = true by rw [h1, decide_eq_false c]; decide), if_neg (fun q => c ⟨q.1, q.2.1⟩)]
  have e2 : ∀ b : S6, stp ⟨y0, y1, y2, y3, y4, y5⟩ ⟨z0, z1, z2, z3, z4, z5⟩ ey ez b 1 = if two = true ∧ z0 > b.v0 then ⟨z0, z1, z2, z3, z4, z5⟩ else b := fun b => by
    unfold stp
    simp only [if_neg (show ¬ (1 : Nat) = 0 by decide)]
    by_cases c : ez = 0 ∧ slotI z0 = 1
    · by_cases d : z0 > b.v0
      · rw [if_pos (show two = true ∧ z0 > b.v0 from ⟨by rw [h2]; exact decide_eq_true c, d⟩), if_pos (show ez = 0 ∧ slotI z0 = ((1 : Nat) : Int) ∧ z0 > b.v0 from ⟨c.1, c.2, d⟩)]
      · rw [if_neg (show ¬ (two = true ∧ z0 > b.v0) from fun q => d q.2), if_neg (show ¬ (ez = 0 ∧ slotI z0 = ((1 : Nat) : Int) ∧ z0 > b.v0) from fun q => d q.2.2)]
    · rw [if_neg (show ¬ (two = true ∧ z0 > b.v0) from fun q => by rw [h2, decide_eq_false c] at q; exact absurd q.1 (by decide)), if_neg (show ¬ (ez = 0 ∧ slotI z0 = ((1 : Nat) : Int) ∧ z0 > b.v0) from fun q => c ⟨q.1, q.2.1⟩)]
  have hb : bst ⟨y0, y1, y2, y3, y4, y5⟩ ⟨z0, z1, z2, z3, z4, z5⟩ ey ez [0, 1] = stp ⟨y0, y1, y2, y3, y4, y5⟩ ⟨z0, z1, z2, z3, z4, z5⟩ ey ez (stp ⟨y0, y1, y2, y3, y4, y5⟩ ⟨z0, z1, z2, z3, z4, z5⟩ ey ez ⟨0, 0, 0, 0, 0, 0⟩ 0) 1 := rfl
  rw [hb, e1, e2]
  have o1 : one = true → ey = 0 ∧ slotI y0 = 0 := fun q => by rw [h1] at q; exact of_decide_eq_true q
  have o2 : two = true → ez = 0 ∧ slotI z0 = 1 := fun q => by rw [h2] at q; exact of_decide_eq_true q
  rcases h3 with ⟨c1, c2, d0, d1, d2, d3, d4, d5, d6⟩ | ⟨c1, c2, d0, d1, d2, d3, d4, d5, d6⟩ | ⟨c1, c2, d0, d1, d2, d3, d4, d5, d6⟩
  · subst d0 d1 d2 d3 d4 d5 d6
    rw [if_pos c1, if_neg (fun q => by
      rcases c2 with c2 | c2
      · rw [c2] at q; exact absurd q.1 (by decide)
      · have := q.2; simp only at this; omega)]
    have := py (o1 c1).1
    exact ⟨rfl, .inr ⟨by omega, rfl⟩⟩
  · subst d0 d1 d2 d3 d4 d5 d6
    have p2 := pz (o2 c2).1
    have key : (two = true ∧ r0 > (if one = true then (⟨y0, y1, y2, y3, y4, y5⟩ : S6) else ⟨0, 0, 0, 0, 0, 0⟩).v0) := by
      refine ⟨c2, ?_⟩
      by_cases c : one = true
      · rw [if_pos c]
        have hle : ¬ y0 > r0 := fun q => c1 ⟨c, .inr q⟩
        have s1 := (o1 c).2
        have s2 := (o2 c2).2
        have hne : y0 ≠ r0 := fun q => by rw [q, s2] at s1; exact absurd s1 (by decide)
        show r0 > y0
        omega
      · rw [if_neg c]
        show r0 > 0
        omega
    rw [if_pos key]
    exact ⟨rfl, .inr ⟨by omega, rfl⟩⟩
  · subst d0 d1 d2 d3 d4 d5 d6
    rw [if_neg (show ¬ one = true by rw [c1]; decide), if_neg (show ¬ (two = true ∧ z0 > (⟨0, 0, 0, 0, 0, 0⟩ : S6).v0) from fun q => by rw [c2] at q; exact absurd q.1 (by decide))]
    exact ⟨rfl, .inl ⟨rfl, rfl⟩⟩
/-- Both choices of two blocks, by the code and by the document's answer. -/
theorem both_c (la lb : List Int) (ha : Bytes la) (hb : Bytes lb) (hla : la.length ≤ 140737488351232) (hlb : lb.length ≤ 140737488351232) : ∃ r0 r1 r2 r3 r4 r5 er : Int, ∀ {w : World} {A B : Option Addr} {ca cb : Nat}, Kd.C (Kd.int .u8) w A la.length la → la.length ≤ ca → Kd.C (Kd.int .u8) w B lb.length lb → lb.length ≤ cb →
    (Calls Try.prog 23 #[.slice A la.length ca, .slice B lb.length cb] w fun e w' => e = .returned (.tuple #[.agg #[.int .i64 r0, .int .i64 r1, .int .i64 r2, .int .i64 r3, .int .i64 r4, .int .i64 r5], .int .i64 er]) ∧ Below w.heap.size w w') ∧
    (Calls Try.prog 24 #[.slice A la.length ca, .slice B lb.length cb] w fun e w' => e = .returned (.tuple #[.agg #[.int .i64 r0, .int .i64 r1, .int .i64 r2, .int .i64 r3, .int .i64 r4, .int .i64 r5], .int .i64 er]) ∧ Below w.heap.size w w') := by
  obtain ⟨y0, y1, y2, y3, y4, y5, ey, py, ry⟩ := parse_all la ha hla
  obtain ⟨z0, z1, z2, z3, z4, z5, ez, pz, rz⟩ := parse_all lb hb hlb
  obtain ⟨r0, r1, r2, r3, r4, r5, er, one, two, hch⟩ := ch_is y0 y1 y2 y3 y4 y5 ey z0 z1 z2 z3 z4 z5 ez
  obtain ⟨h1, h2⟩ := ch_eq py pz hch
  refine ⟨r0, r1, r2, r3, r4, r5, er, fun hA hca hB hcb => ⟨?_, rchoose_c hA hca hB hcb ry rz hch⟩⟩
  exact choose_c (y := ⟨y0, y1, y2, y3, y4, y5⟩) (z := ⟨z0, z1, z2, z3, z4, z5⟩) (r := ⟨r0, r1, r2, r3, r4, r5⟩) hA hca hB hcb ry rz h1 h2
theorem own_set {w : World} {base g c : Nat} {l : List Int} (h : Own w base (some ⟨g, 0, none⟩) c l) {i : Nat} (hi : i < l.length) (v : Int) : Own (w.setCell ⟨g, i, none⟩ (.int .u8 v)) base (some ⟨g, 0, none⟩) c (l.set i v) := by
  obtain ⟨g', cur, h1, h2, h3, h4⟩ := h.blk (by omega)
  injection h1 with h1
  injection h1 with h1
  subst h1
  have hb : (w.setCell ⟨g, i, none⟩ (.int .u8 v)).heap[g]? = some (.cells (cur.set i (.int .u8 v)).toArray 5 (0, 0)) := by rw [blk_set h3 i]; simp
  have ht : (cur.set i (.int .u8 v)).take (l.set i v).length = encs (Value.int .u8) (l.set i v) := by
    rw [List.length_set, List.take_set, h4]
    simp [encs, List.map_set]
  refine ⟨by rw [List.length_set]; exact h.cap, ?_, fun _ => ⟨g, _, rfl, h2, hb, ht⟩⟩
  exact blk_C (enc := Value.int .u8) (h1 := fun _ => rfl) hb (by simpa using ht) (by rw [List.length_set]; exact h.C.2.1)
theorem xor_byte {a b : Int} (ha : 0 ≤ a ∧ a < 256) (hb : 0 ≤ b ∧ b < 256) : 0 ≤ Go.bits .xor .u8 a b ∧ Go.bits .xor .u8 a b < 256 := by
  rw [u8_x a b ha hb]
  have : a.toNat ^^^ b.toNat < 256 := Nat.xor_lt_two_pow (n := 8) (by omega) (by omega)
  omega
theorem set_bytes {l : List Int} (h : Bytes l) {v : Int} (hv : 0 ≤ v ∧ v < 256) (i : Nat) : Bytes (l.set i v) := fun x hx => by
  rcases List.mem_or_eq_of_mem_set hx with h1 | h1
  · exact h x h1
  · rw [h1]; exact hv
/-- Two's cells. -/
abbrev twCs (a0 a1 a2 a3 a4 a5 b0 b1 b2 b3 b4 b5 : Int) (tb : Bool) (ta ty : Int) (D : Option Addr) (n cd : Nat) : Array Value := #[.int .i64 a0, .int .i64 a1, .int .i64 a2, .int .i64 a3, .int .i64 a4, .int .i64 a5, .int .i64 b0, .int .i64 b1, .int .i64 b2, .int .i64 b3, .int .i64 b4, .int .i64 b5, .bool tb, .int .u8 ta, .int .u8 ty, .slice D n cd]
theorem tw_cells {w : World} {g : Nat} {a0 a1 a2 a3 a4 a5 b0 b1 b2 b3 b4 b5 : Int} {tb : Bool} {ta ty : Int} {D : Option Addr} {n cd : Nat} {t : TypeId} (h : w.heap[g]? = some (.cells (twCs a0 a1 a2 a3 a4 a5 b0 b1 b2 b3 b4 b5 tb ta ty D n cd) t (0, 0))) :
    w.cell? ⟨g, 0, none⟩ = some (.int .i64 a0) ∧ w.cell? ⟨g, 1, none⟩ = some (.int .i64 a1) ∧ w.cell? ⟨g, 2, none⟩ = some (.int .i64 a2) ∧ w.cell? ⟨g, 3, none⟩ = some (.int .i64 a3) ∧ w.cell? ⟨g, 4, none⟩ = some (.int .i64 a4) ∧ w.cell? ⟨g, 5, none⟩ = some (.int .i64 a5) ∧ w.cell? ⟨g, 6, none⟩ = some (.int .i64 b0) ∧ w.cell? ⟨g, 7, none⟩ = some (.int .i64 b1) ∧ w.cell? ⟨g, 8, none⟩ = some (.int .i64 b2) ∧ w.cell? ⟨g, 9, none⟩ = some (.int .i64 b3) ∧ w.cell? ⟨g, 10, none⟩ = some (.int .i64 b4) ∧ w.cell? ⟨g, 11, none⟩ = some (.int .i64 b5) ∧ w.cell? ⟨g, 12, none⟩ = some (.bool tb) ∧ w.cell? ⟨g, 13, none⟩ = some (.int .u8 ta) ∧ w.cell? ⟨g, 14, none⟩ = some (.int .u8 ty) ∧ w.cell? ⟨g, 15, none⟩ = some (.slice D n cd) := by
  refine ⟨?_, ?_, ?_, ?_, ?_, ?_, ?_, ?_, ?_, ?_, ?_, ?_, ?_, ?_, ?_, ?_⟩ <;> (unfold World.cell?; simp only [h]; rfl)
end Go.Proofs.Ytojolpamgijcbaa.Pure
