/- Records: the contracts of what is done with them, in plain words. -/
import Derived.Test.YtglgndeoldgjbaaTakes
import Derived.Test.YtglgndeoldgjbaaRefRec
import Derived.Test.YtglgndeoldgjbaaMem
namespace Go.Proofs.Ytglgndeoldgjbaa.Pure
open Go.RowKit Go.Proofs.Ytglgndeoldgjbaa Go.Proofs.Ytglgndeoldgjbaa.PTwo Go.Proofs.Ytglgndeoldgjbaa.Mem Go.Proofs.YtglgndeoldgjbaaW.PrintWords Go.Proofs.YtglgndeoldgjbaaW.PrintLast Go.Proofs.YtglgndeoldgjbaaW.PrintMore
set_option linter.unusedVariables false
set_option linter.unusedSimpArgs false

theorem drawn_below {w w' : World} (h : Drawn0 w w') : Below w.heap.size w w' := by
  obtain ⟨n, rfl⟩ := h.out
  exact pw_below_drewN (Below.refl _ _) n
/-- A row's bytes, and if it has any, the block of the call's own in which it lies. -/
structure Own (w : World) (base : Nat) (A : Option Addr) (c : Nat) (l : List Int) : Prop where
  cap : l.length ≤ c
  C : Kd.C (Kd.int .u8) w A l.length l
  blk : 0 < l.length → ∃ g cur, A = some ⟨g, 0, none⟩ ∧ base ≤ g ∧ w.heap[g]? = some (.cells (List.toArray cur) 5 (0, 0)) ∧ cur.take l.length = encs (Value.int .u8) l
theorem own_of {w : World} {base : Nat} {ok : Nat → Prop} {v : Value} {l : List Int} (h : Kd.R (Kd.int .u8) 5 w base ok v l) : ∃ A c, v = .slice A l.length c ∧ Own w base A c l := by
  obtain ⟨A, c, rfl, hc, hC⟩ := Kd.R_reads h
  refine ⟨A, c, rfl, hc, hC, fun hp => ?_⟩
  obtain ⟨g, cap, cur, hv, hb, _, hh, hn, hm, hs, ht⟩ := row_blk (enc := Value.int .u8) (h1 := fun _ => rfl) h hp
  injection hv with h1 h2 h3
  exact ⟨g, cur, h1, hb, hh, ht⟩
section
variable {w : World} {A B : Option Addr} {c d : Nat} {l m : List Int} (a0 a1 a2 a4 b0 b1 b2 b4 x0 : Int)
theorem begun_c (w : World) : Calls Try.prog 7 #[] w fun e w' => e = .returned (.bool true) ∧ Below w.heap.size w w' :=
  atticlaw06_begun.calls 710 true w (begun_f 710 (by decide))
theorem check_c (hC : Kd.C (Kd.int .u8) w A l.length l) (hc : l.length ≤ c) {z : Int} (hz : (if recOk a0 a1 a2 l a4 then (0 : Int) else 60) = z) :
    Calls Try.prog 14 #[.agg #[.int .i64 a0, .int .i64 a1, .int .i64 a2, .slice A l.length c, .int .i64 a4]] w fun e w' => e = .returned (.int .i64 z) ∧ Below w.heap.size w w' :=
  record_Check.calls a0 a1 a2 A c l a4 _ w hC hc (by rw [check_f a0 a1 a2 l a4, hz])
theorem rcheck_c (hC : Kd.C (Kd.int .u8) w A l.length l) (hc : l.length ≤ c) (hl : l.length ≤ 140737488355328) {z : Int} (hz : (if recOk a0 a1 a2 l a4 then (0 : Int) else 60) = z) :
    Calls Try.prog 15 #[.agg #[.int .i64 a0, .int .i64 a1, .int .i64 a2, .slice A l.length c, .int .i64 a4]] w fun e w' => e = .returned (.int .i64 z) ∧ Below w.heap.size w w' :=
  PRef.atticref06_Check.calls a0 a1 a2 A c l a4 _ w hC hc (by rw [rcheck_f a0 a1 a2 l a4 hl, hz])
theorem bytes_c (hC : Kd.C (Kd.int .u8) w A l.length l) (hc : l.length ≤ c) (hb : Bytes l) {r : List Int} {n : Int} (hr : bytesA x0 a0 a1 a2 l a4 = (r, n)) :
    Calls Try.prog 8 #[.int .i64 x0, .agg #[.int .i64 a0, .int .i64 a1, .int .i64 a2, .slice A l.length c, .int .i64 a4]] w fun e w' => ∃ B d, e = .returned (.tuple #[.slice B r.length d, .int .i64 n]) ∧ Own w' w.heap.size B d r ∧ Below w.heap.size w w' := by
  refine (record_Bytes.calls 700 x0 a0 a1 a2 A c l a4 r n w hC hc (by rw [bytes_f 700 x0 a0 a1 a2 l a4 hb (by decide), hr])).mono ?_
  rintro e w' ⟨v, rfl, ho, hb⟩
  obtain ⟨B, d, rfl, ho2⟩ := own_of ho
  exact ⟨B, d, rfl, ho2, hb⟩
theorem rbytes_c (hC : Kd.C (Kd.int .u8) w A l.length l) (hc : l.length ≤ c) (hb : Bytes l) (hl : l.length ≤ 140737488355328) {r : List Int} {n : Int} (hr : bytesA x0 a0 a1 a2 l a4 = (r, n)) :
    Calls Try.prog 12 #[.int .i64 x0, .agg #[.int .i64 a0, .int .i64 a1, .int .i64 a2, .slice A l.length c, .int .i64 a4]] w fun e w' => ∃ B d, e = .returned (.tuple #[.slice B r.length d, .int .i64 n]) ∧ Own w' w.heap.size B d r ∧ Below w.heap.size w w' := by
  refine (PRef.atticref06_Bytes.calls 900 x0 a0 a1 a2 A c l a4 r n w hC hc (by rw [rbytes_f 900 x0 a0 a1 a2 l a4 hb hl (by decide), hr])).mono ?_
  rintro e w' ⟨v, rfl, ho, hb⟩
  obtain ⟨B, d, rfl, ho2⟩ := own_of ho
  exact ⟨B, d, rfl, ho2, hb⟩
theorem clone_c (hC : Kd.C (Kd.int .u8) w A l.length l) (hc : l.length ≤ c) (hl : l.length < 140737488355328) :
    Calls Try.prog 13 #[.agg #[.int .i64 a0, .int .i64 a1, .int .i64 a2, .slice A l.length c, .int .i64 a4]] w fun e w' => ∃ B d, e = .returned (.agg #[.int .i64 a0, .int .i64 a1, .int .i64 a2, .slice B l.length d, .int .i64 a4]) ∧ Own w' w.heap.size B d l ∧ Below w.heap.size w w' := by
  refine (PRef.record_Clone.calls a0 a1 a2 A c l a4 a0 a1 a2 l a4 w hC hc (by unfold PRef.record_Clone.f PRef.bytes_Clone.f; rw [if_pos hl]; rfl)).mono ?_
  rintro e w' ⟨v, rfl, ho, hb⟩
  obtain ⟨B, d, rfl, ho2⟩ := own_of ho
  exact ⟨B, d, rfl, ho2, hb⟩
theorem rclone_c (hC : Kd.C (Kd.int .u8) w A l.length l) (hc : l.length ≤ c) (hl : l.length < 140737488355328) :
    Calls Try.prog 11 #[.agg #[.int .i64 a0, .int .i64 a1, .int .i64 a2, .slice A l.length c, .int .i64 a4]] w fun e w' => ∃ B d, e = .returned (.agg #[.int .i64 a0, .int .i64 a1, .int .i64 a2, .slice B l.length d, .int .i64 a4]) ∧ Own w' w.heap.size B d l ∧ Below w.heap.size w w' := by
  refine (PRef.atticref06_Clone.calls a0 a1 a2 A c l a4 a0 a1 a2 l a4 w hC hc (by unfold PRef.atticref06_Clone.f; rw [if_pos (by simpa using hl)])).mono ?_
  rintro e w' ⟨v, rfl, ho, hb⟩
  obtain ⟨B, d, rfl, ho2⟩ := own_of ho
  exact ⟨B, d, rfl, ho2, hb⟩
theorem same_c (hC : Kd.C (Kd.int .u8) w A l.length l) (hc : l.length ≤ c) (hD : Kd.C (Kd.int .u8) w B m.length m) (hd : m.length ≤ d) (hb : Bytes l) (hm : Bytes m) {r : Bool} (hr : decide (a0 = b0 ∧ a1 = b1 ∧ a2 = b2 ∧ a4 = b4 ∧ l = m) = r) :
    Calls Try.prog 10 #[.agg #[.int .i64 a0, .int .i64 a1, .int .i64 a2, .slice A l.length c, .int .i64 a4], .agg #[.int .i64 b0, .int .i64 b1, .int .i64 b2, .slice B m.length d, .int .i64 b4]] w fun e w' => e = .returned (.bool r) ∧ Below w.heap.size w w' :=
  record_Same.calls a0 a1 a2 A c l a4 b0 b1 b2 B d m b4 r w hC hc hD hd (by rw [same_f _ _ _ _ _ _ _ _ _ _ hb hm, hr])
theorem rsame_c (hC : Kd.C (Kd.int .u8) w A l.length l) (hc : l.length ≤ c) (hD : Kd.C (Kd.int .u8) w B m.length m) (hd : m.length ≤ d) (hb : Bytes l) (hm : Bytes m) {r : Bool} (hr : decide (a0 = b0 ∧ a1 = b1 ∧ a2 = b2 ∧ a4 = b4 ∧ l = m) = r) :
    Calls Try.prog 16 #[.agg #[.int .i64 a0, .int .i64 a1, .int .i64 a2, .slice A l.length c, .int .i64 a4], .agg #[.int .i64 b0, .int .i64 b1, .int .i64 b2, .slice B m.length d, .int .i64 b4]] w fun e w' => e = .returned (.bool r) ∧ Below w.heap.size w w' :=
  PRef.atticref06_Same.calls a0 a1 a2 A c l a4 b0 b1 b2 B d m b4 r w hC hc hD hd (by rw [rsame_f _ _ _ _ _ _ _ _ _ _ hb hm, hr])
theorem equal_c (hC : Kd.C (Kd.int .u8) w A l.length l) (hc : l.length ≤ c) (hD : Kd.C (Kd.int .u8) w B m.length m) (hd : m.length ≤ d) (hb : Bytes l) (hm : Bytes m) {r : Bool} (hr : decide (l = m) = r) :
    Calls Try.prog 9 #[.slice A l.length c, .slice B m.length d] w fun e w' => e = .returned (.bool r) ∧ Below w.heap.size w w' := by
  refine (bytes_Equal.calls A c l B d m r w hC hc hD hd (by rw [equal_f _ _ hb hm, hr])).mono ?_
  rintro e w' ⟨rfl, hb⟩
  exact ⟨rfl, drawn_below hb⟩
theorem eqself_c (hC : Kd.C (Kd.int .u8) w A l.length l) (hc : l.length ≤ c) (hD : Kd.C (Kd.int .u8) w B l.length l) (hd : l.length ≤ d) :
    Calls Try.prog 9 #[.slice A l.length c, .slice B l.length d] w fun e w' => e = .returned (.bool true) ∧ Below w.heap.size w w' := by
  refine (bytes_Equal.calls A c l B d l true w hC hc hD hd ?_).mono ?_
  · unfold bytes_Equal.f
    simp
  rintro e w' ⟨rfl, hb⟩
  exact ⟨rfl, drawn_below hb⟩
end
end Go.Proofs.Ytglgndeoldgjbaa.Pure
