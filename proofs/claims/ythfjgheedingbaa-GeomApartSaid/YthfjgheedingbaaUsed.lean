/- The bytes of a disk in use, as the law's map keeps them: a map's block that holds just some bytes' places. -/
import Derived.Test.YthfjgheedingbaaPureGeomWhole
import Derived.Maps.OwnSet
import Derived.Maps.OwnOps
import Derived.DeepKeys5
namespace Go.Proofs.Ythfjgheedingbaa.Pure
open Go.RowKit Go.Proofs.Ythfjgheedingbaa Go.Proofs.Ythfjgheedingbaa.PAll Go.Proofs.Ythfjgheedingbaa.Mem Go.Proofs.YthfjgheedingbaaW.PrintWords Go.Proofs.YthfjgheedingbaaW.PrintLast Go.Proofs.YthfjgheedingbaaW.PrintMore
open Go.Maps (Keyed)
set_option linter.unusedVariables false
set_option linter.unusedSimpArgs false

/-- What a call may have changed: of the blocks that were there only those of F. -/
structure Fr (F : Nat → Prop) (w w' : World) : Prop where
  os : w'.os = w.os
  tape : w'.tape = w.tape
  output : w'.output = w.output
  size : w.heap.size ≤ w'.heap.size
  block : ∀ k, k < w.heap.size → ¬ F k → w'.heap[k]? = w.heap[k]?
theorem Fr.of_below {F : Nat → Prop} {w w' : World} (h : Below w.heap.size w w') : Fr F w w' := ⟨h.os, h.tape, h.output, h.size, fun k hk _ => h.block k hk⟩
theorem Fr.refl (F : Nat → Prop) (w : World) : Fr F w w := ⟨rfl, rfl, rfl, Nat.le_refl _, fun _ _ _ => rfl⟩
theorem Fr.trans {F F' : Nat → Prop} {w w1 w2 : World} (h : Fr F w w1) (k : Fr F' w1 w2) (hF : ∀ i, F' i → F i ∨ w.heap.size ≤ i) : Fr F w w2 :=
  ⟨k.os.trans h.os, k.tape.trans h.tape, k.output.trans h.output, Nat.le_trans h.size k.size, fun i hi hn => (k.block i (Nat.lt_of_lt_of_le hi h.size) (fun hf => by rcases hF i hf with h1 | h1; exact hn h1; omega)).trans (h.block i hi hn)⟩
theorem Fr.set {F : Nat → Prop} {w w1 : World} (h : Fr F w w1) {p : Addr} (hp : F p.block) (v : Value) : Fr F w (w1.setCell p v) :=
  h.trans (F' := F) ⟨rfl, rfl, rfl, by simp [World.setCell], fun k _ hn => Below.heap_setCell w1 p v k (fun e => hn (e ▸ hp))⟩ (fun i hi => .inl hi)
theorem Fr.below {F : Nat → Prop} {B : Nat} {w0 w w' : World} (h : Fr F w w') (hb : Below B w0 w) (hF : ∀ i, F i → B ≤ i) (hB : B ≤ w.heap.size) : Below B w0 w' :=
  hb.trans ⟨h.os, h.tape, h.output, h.size, fun k hk => h.block k (Nat.lt_of_lt_of_le hk hB) (fun hf => by have := hF k hf; omega)⟩
/-- A byte's place, as a key. -/
def kyA (A : Nat) : Value := .agg #[.int .i64 ((A / 256 : Nat) : Int), .int .i64 ((A % 256 : Nat) : Int)]
def klA (A : Nat) : Lit := .string (keyBytes [.int .i64 ((A / 256 : Nat) : Int), .int .i64 ((A % 256 : Nat) : Int)])
theorem laidB : laidOutB Try.prog = true := by kernel_rfl
theorem law37 : Keyed Try.prog 37 := Keyed.of_law (deep_law_gate laidB (of_decide_eq_true (by kernel_rfl)) (of_decide_eq_true (by kernel_rfl)) (by kernel_rfl) (by rw [Try.underlying37]))
theorem nat_wf {n : Nat} (h : n < 1099511627776) : (Lit.int .i64 (n : Int)).wf = true := by
  exact WalkArith.wf_i64 ⟨by omega, by omega⟩
theorem lits_A (A : Nat) (h : A < 1099511627776) (d : Nat) : Try.prog.keyLits (d + 2) 37 [.int .i64 ((A / 256 : Nat) : Int), .int .i64 ((A % 256 : Nat) : Int)] = some [.int .i64 ((A / 256 : Nat) : Int), .int .i64 ((A % 256 : Nat) : Int)] := by
  have hc37 : Try.prog.cellsOf 37 = 2 := by kernel_rfl
  have hc3 : Try.prog.cellsOf 3 = 1 := by kernel_rfl
  have w1 : (Lit.int .i64 ((A / 256 : Nat) : Int)).wf = true := nat_wf (by omega)
  have w2 : (Lit.int .i64 ((A % 256 : Nat) : Int)).wf = true := nat_wf (by omega)
  have k : ∀ x : Int, (Lit.int .i64 x).wf = true → Try.prog.keyLits (d + 1) 3 [.int .i64 x] = some [.int .i64 x] := by
    intro x hx
    unfold Program.keyLits
    simp only [Try.underlying3]
    simp [hx]
  generalize ((A / 256 : Nat) : Int) = x at *
  generalize ((A % 256 : Nat) : Int) = y at *
  unfold Program.keyLits
  simp only [Try.underlying37]
  simp only [hc37, hc3, List.length_cons, List.length_nil, if_true, List.range, List.range.loop]
  simp [List.mapM_cons, k _ w1, k _ w2]
theorem key_A (A : Nat) (h : A < 1099511627776) : keyOf Try.prog 37 (kyA A) = some (klA A) := by
  unfold keyOf kyA klA
  rw [Try.underlying37]
  have hk : Try.prog.keyType 37 = true := by kernel_rfl
  have hf : (Value.agg #[.int .i64 ((A / 256 : Nat) : Int), .int .i64 ((A % 256 : Nat) : Int)]).formed Try.prog 37 = true := by
    simp [Value.formed, Try.underlying37, show Try.prog.cellsOf 37 = 2 by kernel_rfl]
  simp only [hk, hf, Bool.and_self, if_true, Value.cells]
  obtain ⟨n, hn⟩ : ∃ n, Try.prog.types.size + 1 = n + 2 := ⟨Try.prog.types.size - 1, by have : 1 ≤ Try.prog.types.size := of_decide_eq_true (by kernel_rfl); omega⟩
  rw [hn, lits_A A h n]
  rfl
theorem klA_ne {A B : Nat} (hA : A < 1099511627776) (hB : B < 1099511627776) (h : A ≠ B) : klA A ≠ klA B := by
  intro e
  unfold klA at e
  injection e with e
  have := keyLits_inj (lits_A A hA 0) (lits_A B hB 0) e
  simp only [List.cons.injEq, Lit.int.injEq, and_true, true_and] at this
  omega
/-- The map's block g holds just the bytes of M, n of them. -/
def Used (w : World) (g : Nat) (M : Nat → Bool) (n : Nat) : Prop := ∃ D : DataW Unit, w.ownsMap Try.prog 37 (plainElem Try.prog 4) g n D ∧ Maps.size D = n ∧ ∀ A, A < 1099511627776 → Maps.has D (klA A) = M A
theorem used_lt {w : World} {g : Nat} {M : Nat → Bool} {n : Nat} (h : Used w g M n) : g < w.heap.size := by
  obtain ⟨D, h1, _⟩ := h
  exact h1.lt
theorem used_kept {w w' : World} {g : Nat} {M : Nat → Bool} {n : Nat} (h : Used w g M n) (hb : w'.heap[g]? = w.heap[g]?) : Used w' g M n := by
  obtain ⟨D, ⟨es, clock, h1, h2⟩, h3⟩ := h
  exact ⟨D, ⟨es, clock, hb.trans h1, h2⟩, h3⟩
theorem used_made (w : World) : Used (w.alloc (.map #[] 0)) w.heap.size (fun _ => false) 0 :=
  ⟨.map [], World.ownsMap_made _ _ _ _, rfl, fun A _ => rfl⟩
theorem used_look {w : World} {g : Nat} {M : Nat → Bool} {n A : Nat} (h : Used w g M n) (hA : A < 1099511627776) (hM : M A = false) : (Instr.lookup 36 (.map (some g)) (kyA A) false).run Try.prog w = .ok (.bool false) w := by
  obtain ⟨D, h1, h2, h3⟩ := h
  have hz : (zeroValue 4).run Try.prog w = .ok (.bool false) w := by kernel_rfl
  obtain ⟨v, ps, hrun, hv⟩ := h1.lookup law37 Try.underlying36 hz (plainElem_bool Try.underlying4 false) (key_A A hA)
  rw [Maps.atKey_of_not_has (by rw [h3 A hA]; exact hM)] at hv
  rw [hrun]
  unfold plainElem at hv
  rw [Try.underlying4] at hv
  cases v <;> simp at hv
  simp [hv]
theorem used_store {w : World} {g : Nat} {M : Nat → Bool} {n A : Nat} (h : Used w g M n) (hA : A < 1099511627776) (hM : M A = false) (hn : n < 1000000) :
    ∃ w', (Instr.mapUpdate 36 (.map (some g)) (kyA A) (.bool true)).run Try.prog w = .ok () w' ∧ Used w' g (fun B => M B || B == A) (n + 1) ∧ w.grownBy w' (some g) := by
  obtain ⟨D, h1, h2, h3⟩ := h
  obtain ⟨w', r1, r2, r3⟩ := h1.update law37 Try.underlying36 (by unfold maxLen; omega) (key_A A hA) (plainElem_bool (H := Unit) Try.underlying4 true)
  refine ⟨w', r1, ⟨_, r2, ?_, fun B hB => ?_⟩, r3⟩
  · rw [Maps.size_put (h1.tidy law37), h3 A hA, hM, h2]
    rfl
  · by_cases e : B = A
    · subst e
      rw [Maps.has_put_same h1.isMap (show WideAt.IsKeyLit (klA B) from trivial)]
      simp
    · rw [Maps.has_put_other (klA_ne hB hA e), h3 B hB]
      simp [e]
end Go.Proofs.Ythfjgheedingbaa.Pure
