/- A disk in memory: its state; what is pending. -/
import Derived.Test.YthnadkdfgckijaaDkM
import Derived.Test.YthnadkdfgckijaaWN
import Derived.Test.YthnadkdfgckijaaWMore
namespace Go.Proofs.Ythnadkdfgckijaa.Pure
open Go.RowKit Go.Proofs.Ythnadkdfgckijaa Go.Proofs.Ythnadkdfgckijaa.PAll Go.Proofs.Ythnadkdfgckijaa.Mem Go.Proofs.YthnadkdfgckijaaW.PrintWords Go.Proofs.YthnadkdfgckijaaW.PrintLast Go.Proofs.YthnadkdfgckijaaW.PrintMore
set_option linter.unusedVariables false
set_option linter.unusedSimpArgs false

/-- A disk's state. -/
structure DS where
  B : List (List Int)
  P : List (Int × List Int)
  off : Bool
  ops : Int
  armed : Int
  picks : List Int
/-- A write that is pending, as it lies in memory. -/
def kW : Kd (Int × List Int) := Kd.pair (Kd.int .i64) (Kd.slice 5 (Kd.int .u8))
theorem pen_at {w : World} {U : Nat → Prop} {A : Option Addr} {n : Nat} {P : List (Int × List Int)} (h : Kd.F kW w U A n P) {k : Nat} (hk : k < P.length) :
    ∃ ad Ab cb, A = some ad ∧ w.cell? (ad.add (k * 2)) = some (.int .i64 (P[k]).1) ∧ w.cell? ⟨(ad.add (k * 2)).block, (ad.add (k * 2)).off + 1, none⟩ = some (.slice Ab (P[k]).2.length cb) ∧ (P[k]).2.length ≤ cb ∧ Kd.F (Kd.int .u8) w U Ab (P[k]).2.length (P[k]).2 := by
  have hn := Kd.F_len h
  obtain ⟨ad, cs, hA, hcl, hK, hcell, _⟩ := Kd.F_get h (0, []) (k : Int) (by omega) (by omega)
  rw [Int.toNat_natCast, List.getD_eq_getElem?_getD, List.getElem?_eq_getElem hk, Option.getD_some] at hK
  rw [Int.toNat_natCast] at hcell
  obtain ⟨c0, c1, hcs, h0, Ab, cb, h1, h2, h3⟩ := Kd.FK_now hK
  have h0' : c0 = [.int .i64 (P[k]).1] := h0
  subst h0' h1
  rw [hcs] at hcell
  have q0 := hcell 0 _ rfl
  have q1 := hcell 1 _ rfl
  have hs : kW.sz = 2 := rfl
  rw [hs, Nat.add_zero] at q0
  rw [hs, add_field ad (k * 2) 1 (by decide)] at q1
  refine ⟨ad, Ab, cb, hA, q0, q1, h2, fun W' hW => ?_⟩
  obtain ⟨d0, d1, hds, g0, Ab', cb', g1, g2, g3⟩ := hK W' hW
  have g0' : d0 = [.int .i64 (P[k]).1] := g0
  rw [hcs, g0', g1] at hds
  simp only [List.cons_append, List.nil_append, List.cons.injEq, Value.slice.injEq, true_and, and_true] at hds
  rw [hds.1]
  exact g3
theorem pen_make {w : World} {base : Nat} {ok : Nat → Prop} {i : Int} {Ab : Option Addr} {cb : Nat} {b : List Int} (h : Kd.R (Kd.int .u8) 5 w base ok (.slice Ab b.length cb) b) : kW.M w base ok (i, b) [.int .i64 i, .slice Ab b.length cb] :=
  ⟨[.int .i64 i], [.slice Ab b.length cb], rfl, rfl, _, rfl, h⟩
/-- A disk at block g; what it is made of lies in U. -/
structure DK (w : World) (g : Nat) (U : Nat → Prop) (s : DS) : Prop where
  lt : ∀ k, U k → k < w.heap.size
  ug : U g
  pen : PenOk s.B.length s.P
  pos : 0 < s.B.length
  out : ∃ (A Ak : Option Addr) (c ck : Nat) (vP : Value) (FB FW FK : Nat → Prop), w.heap[g]? = some (.cells (dkCs A s.B.length c vP (.bool s.off) (.int .i64 s.ops) (.int .i64 s.armed) (.slice Ak s.picks.length ck)) 55 (0, 0)) ∧ RowsAt w A c FB s.B ∧ Kd.R kW 101 w 0 FW vP s.P ∧
    Kd.F (Kd.int .u8) w FK Ak s.picks.length s.picks ∧ s.picks.length ≤ ck ∧ (∀ k, FB k → U k ∧ k ≠ g) ∧ (∀ k, FW k → U k ∧ k ≠ g ∧ ¬ FB k) ∧ (∀ k, FK k → U k ∧ k ≠ g ∧ ¬ FB k ∧ ¬ FW k)
theorem DK.fr {w w' : World} {g : Nat} {U F : Nat → Prop} {s : DS} (h : DK w g U s) (hf : Fr F w w') (hn : ∀ k, U k → ¬ F k) : DK w' g U s := by
  obtain ⟨lt, ug, pen, pos, A, Ak, c, ck, vP, FB, FW, FK, h1, h2, h3, h4, h5, h6, h7, h8⟩ := h
  exact ⟨fun k hk => Nat.lt_of_lt_of_le (lt k hk) hf.size, ug, pen, pos, A, Ak, c, ck, vP, FB, FW, FK, fr_blk hf h1 (hn _ ug), h2.fr hf (fun k hk => hn k (h6 k hk).1), Kd.R_step h3 (fun k hk hlt => hf.block k hlt (hn k (h7 k hk).1)), F_fr h4 hf (fun k hk => hn k (h8 k hk).1), h5, h6, h7, h8⟩
theorem DK.below {w w' : World} {g : Nat} {U : Nat → Prop} {s : DS} (h : DK w g U s) (hb : Below w.heap.size w w') : DK w' g U s := h.fr (F := fun _ => False) (Fr.of_below hb) (fun _ _ h => h)
/-- What a call does to a disk: it is another state, in what it had and what is new. -/
def Does (w w' : World) (g : Nat) (U : Nat → Prop) (s : DS) : Prop := Fr U w w' ∧ ∃ U' : Nat → Prop, DK w' g U' s ∧ ∀ k, U' k → U k ∨ w.heap.size ≤ k
theorem Does.then_ {w w1 w2 : World} {g : Nat} {U : Nat → Prop} {s : DS} {Q : (Nat → Prop) → Prop} (h1 : Fr U w w1) {U1 : Nat → Prop} (hU : ∀ k, U1 k → U k ∨ w.heap.size ≤ k) (h2 : Does w1 w2 g U1 s) : Does w w2 g U s := by
  obtain ⟨f2, U2, d2, u2⟩ := h2
  exact ⟨h1.trans f2 hU, U2, d2, fun k hk => (u2 k hk).elim (hU k) (fun q => .inr (Nat.le_trans h1.size q))⟩
theorem Does.same {w w' : World} {g : Nat} {U : Nat → Prop} {s : DS} (h : DK w g U s) (hb : Below w.heap.size w w') : Does w w' g U s := ⟨Fr.of_below hb, U, h.below hb, fun _ h => .inl h⟩
/-- What is wrong with asking. -/
def canS (s : DS) : Int := if s.off = true then 5 else 0
def placeS (s : DS) (i : Int) : Int := if s.off = true then 5 else if i < 0 ∨ i ≥ (s.B.length : Int) then 30 else 0
def fallsS (s : DS) (ps : List Int) : DS := { s with B := fallB s.B (s.P.zip ps), P := [], off := true, armed := 0, picks := [] }
def goesS (s : DS) : Bool × DS :=
  if s.armed = 0 then (false, { s with ops := wrap64 (s.ops + 1) })
  else if wrap64 (s.armed - 1) > 0 then (false, { s with ops := wrap64 (s.ops + 1), armed := wrap64 (s.armed - 1) })
  else (true, fallsS { s with ops := wrap64 (s.ops + 1), armed := wrap64 (s.armed - 1) } s.picks)
def writeS (s : DS) (i : Int) (b : List Int) : Int × DS :=
  if placeS s i ≠ 0 then (placeS s i, s) else if b.length ≠ 256 then (31, s)
  else let r := goesS { s with P := s.P ++ [(i, b)] }; (if r.1 = true then 5 else 0, r.2)
def flushS (s : DS) : Int × DS :=
  if s.off = true then (5, s) else let r := goesS s; if r.1 = true then (5, r.2) else (0, { r.2 with B := flushB r.2.B r.2.P, P := [] })
def crashS (s : DS) (ps : List Int) : Int × DS := if s.off = true then (5, s) else (0, fallsS s ps)
def restartS (s : DS) : Int × DS := if s.off = true then (0, { s with off := false }) else (7, s)
end Go.Proofs.Ythnadkdfgckijaa.Pure
