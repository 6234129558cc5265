/- Texts of this claim, joined: Fr, DkA, DkM, DkS, DkC, DkD, DkE, DkW, Own, DkN, PEq, DkF, DkI, DkR, DkL. -/
import Derived.Test.YthnadkdfgckijaaMem
import Derived.Test.YthnadkdfgckijaaWShare
import Derived.RangeFuncRecord
import Derived.Test.YthnadkdfgckijaaPAllx2
import Derived.Deep.RegionLaw
import Derived.Deep.RegionHeld3
import Derived.Deep.QuietTactic
import Derived.BigQuiet
import Derived.Test.YthnadkdfgckijaaWN
import Derived.Test.YthnadkdfgckijaaWMore
import Derived.Laws.OwnMore
import Derived.Test.YthnadkdfgckijaaPAllx0
import Derived.Lib.Bytes
import Derived.Test.YthnadkdfgckijaaWKept
import Derived.RangeFuncBox
import Derived.RangeFuncCalls
import Derived.RangeFuncFrom
import Derived.RangeFuncMany
import Derived.RangeFuncLeaves
import Derived.Shelf.Abstract
import Derived.OwnWalkIn
import Derived.TacticsInMore
import Derived.LoopNIn
import Derived.LoopIn
import Derived.BigFrameIn
import Derived.Deep.RegionWith
import Derived.Deep.Cut
import Derived.Deep.CutRange
import Derived.RangeFuncNested
import Derived.Stop.RegionWithIn
namespace Go.Proofs.Ythnadkdfgckijaa.Pure
open Go.RowKit Go.Proofs.Ythnadkdfgckijaa.Mem Go.Proofs.YthnadkdfgckijaaW.PrintWords Go.Proofs.YthnadkdfgckijaaW.PrintLast Go.Proofs.YthnadkdfgckijaaW.PrintMore
set_option linter.unusedVariables false
set_option linter.unusedSimpArgs false

/-- What a call may have changed: of the blocks that were there only those of F. -/
structure Fr (F : Nat → Prop) (w w' : World) : Prop where
  os : w'.os = w.os
  tape : w'.tape = w.tape
  output : w'.output = w.output
  size : w.heap.size ≤ w'.heap.size
  block : ∀ k, k < w.heap.size → ¬ F k → w'.heap[k]? = w.heap[k]?
theorem Fr.of_below {F : Nat → Prop} {w w' : World} (h : Below w.heap.size w w') : Fr F w w' := ⟨h.os, h.tape, h.output, h.size, fun k hk _ => h.block k hk⟩
theorem Fr.refl (F : Nat → Prop) (w : World) : Fr F w w := ⟨rfl, rfl, rfl, Nat.le_refl _, fun _ _ _ => rfl⟩
theorem Fr.trans {F F' : Nat → Prop} {w w1 w2 : World} (h : Fr F w w1) (k : Fr F' w1 w2) (hF : ∀ i, F' i → F i ∨ w.heap.size ≤ i) : Fr F w w2 :=
  ⟨k.os.trans h.os, k.tape.trans h.tape, k.output.trans h.output, Nat.le_trans h.size k.size, fun i hi hn => (k.block i (Nat.lt_of_lt_of_le hi h.size) (fun hf => by rcases hF i hf with h1 | h1; exact hn h1; omega)).trans (h.block i hi hn)⟩
theorem Fr.then_ {F : Nat → Prop} {w w1 w2 : World} (h : Fr F w w1) (k : Fr F w1 w2) : Fr F w w2 := h.trans k (fun _ h => .inl h)
theorem Fr.mono {F F' : Nat → Prop} {w w' : World} (h : Fr F w w') (hF : ∀ k, F k → F' k) : Fr F' w w' := ⟨h.os, h.tape, h.output, h.size, fun k hk hn => h.block k hk (fun hf => hn (hF k hf))⟩
theorem Fr.set {F : Nat → Prop} {w w1 : World} (h : Fr F w w1) {p : Addr} (hp : F p.block) (v : Value) : Fr F w (w1.setCell p v) :=
  h.trans (F' := F) ⟨rfl, rfl, rfl, by simp [World.setCell], fun k _ hn => Below.heap_setCell w1 p v k (fun e => hn (e ▸ hp))⟩ (fun i hi => .inl hi)
theorem Fr.below {F : Nat → Prop} {B : Nat} {w0 w w' : World} (h : Fr F w w') (hb : Below B w0 w) (hF : ∀ i, F i → B ≤ i) (hB : B ≤ w.heap.size) : Below B w0 w' :=
  hb.trans ⟨h.os, h.tape, h.output, h.size, fun k hk => h.block k (Nat.lt_of_lt_of_le hk hB) (fun hf => by have := hF k hf; omega)⟩
theorem Fr.under {F : Nat → Prop} {B : Nat} {w w' : World} (h : Fr F w w') (hB : B ≤ w.heap.size) (hF : ∀ i, F i → B ≤ i) : Below B w w' :=
  ⟨h.os, h.tape, h.output, h.size, fun k hk => h.block k (Nat.lt_of_lt_of_le hk hB) (fun hf => by have := hF k hf; omega)⟩
theorem F_fr {α : Type} {d : Kd α} {w w' : World} {U F : Nat → Prop} {A : Option Addr} {n : Nat} {xs : List α} (h : Kd.F d w U A n xs) (hf : Fr F w w') (hU : ∀ k, U k → ¬ F k) : Kd.F d w' U A n xs := Kd.F_step h (fun k hk hlt => hf.block k hlt (hU k hk))
theorem fr_blk {F : Nat → Prop} {w w' : World} (h : Fr F w w') {g : Nat} {o : Obj} (hg : w.heap[g]? = some o) (hn : ¬ F g) : w'.heap[g]? = some o := by
  refine (h.block g ?_ hn).trans hg
  rcases Nat.lt_or_ge g w.heap.size with h1 | h1
  · exact h1
  · rw [Array.getElem?_eq_none h1] at hg
    cases hg
theorem drawn_below {w w' : World} (h : Drawn0 w w') : Below w.heap.size w w' := by
  obtain ⟨n, rfl⟩ := h.out
  exact pw_below_drewN (Below.refl _ _) n
theorem heap_new (w : World) (o : Obj) : (w.alloc o).heap[w.heap.size]? = some o := World.alloc_heap_new w o
/-- A row of the call's own, as an address, its room, and a row that is only read. -/
theorem R_own {α : Type} {d : Kd α} {e : TypeId} {w : World} {base : Nat} {ok : Nat → Prop} {v : Value} {l : List α} (h : Kd.R d e w base ok v l) : ∃ A c, v = .slice A l.length c ∧ l.length ≤ c ∧ Kd.F d w ok A l.length l := by
  obtain ⟨A, c, rfl, hc, hC⟩ := Kd.R_reads h
  exact ⟨A, c, rfl, hc, Kd.R_F h⟩
end Go.Proofs.Ythnadkdfgckijaa.Pure
namespace Go.Proofs.Ythnadkdfgckijaa.Pure
open Go.RowKit Go.Proofs.Ythnadkdfgckijaa.Mem Go.Proofs.YthnadkdfgckijaaW.PrintWords Go.Proofs.YthnadkdfgckijaaW.PrintLast Go.Proofs.YthnadkdfgckijaaW.PrintMore
set_option linter.unusedVariables false
set_option linter.unusedSimpArgs false

def Bytes (l : List Int) : Prop := ∀ x ∈ l, 0 ≤ x ∧ x < 256
/-- Has the pick this sector? -/
def bitB (pick : Int) (k : Nat) : Bool := Go.bits .and .u8 (pick / 2 ^ min k 8) 1 == 1
def sec (b : List Int) (k : Nat) : List Int := (b.drop (64 * k)).take 64
def mixN (b : List Int) (pick : Int) : Nat → List Int → List Int
  | 0, r => r
  | k + 1, r => if bitB pick k = true then over (mixN b pick k r) (64 * k) (sec b k) else mixN b pick k r
def mix (old b : List Int) (pick : Int) : List Int := mixN b pick 4 old
theorem sec_len {b : List Int} (h : b.length = 256) {k : Nat} (hk : k < 4) : (sec b k).length = 64 := by
  unfold sec
  rw [List.length_take, List.length_drop]
  omega
theorem mixN_len {b r : List Int} (hb : b.length = 256) (hr : r.length = 256) (pick : Int) : ∀ k, k ≤ 4 → (mixN b pick k r).length = 256
  | 0, _ => hr
  | k + 1, h => by
    have ih := mixN_len hb hr pick k (by omega)
    unfold mixN
    split
    · rw [over_length (by rw [sec_len hb (by omega), ih]; omega)]
      exact ih
    · exact ih
theorem mix_len {b r : List Int} (hb : b.length = 256) (hr : r.length = 256) (pick : Int) : (mix r b pick).length = 256 := mixN_len hb hr pick 4 (by omega)
theorem over_get {l x : List Int} {o : Nat} (h : o + x.length ≤ l.length) (j : Nat) : (over l o x)[j]? = if o ≤ j ∧ j < o + x.length then x[j - o]? else l[j]? := by
  unfold over
  by_cases h1 : j < o
  · rw [if_neg (by omega), List.getElem?_append_left (by rw [List.length_take]; omega), List.getElem?_take, if_pos h1]
  · rw [List.getElem?_append_right (by rw [List.length_take]; omega), List.length_take, Nat.min_eq_left (by omega)]
    by_cases h2 : j < o + x.length
    · rw [if_pos ⟨by omega, h2⟩, List.getElem?_append_left (by omega)]
    · rw [if_neg (by omega), List.getElem?_append_right (by omega), List.getElem?_drop]
      congr 1
      omega
theorem sec_get (b : List Int) (k j : Nat) (h1 : 64 * k ≤ j) (h2 : j < 64 * k + 64) : (sec b k)[j - 64 * k]? = b[j]? := by
  unfold sec
  rw [List.getElem?_take, if_pos (by omega), List.getElem?_drop]
  congr 1
  omega
theorem mixN_get {b r : List Int} (hb : b.length = 256) (hr : r.length = 256) (pick : Int) (j : Nat) (hj : j < 256) : ∀ k, k ≤ 4 → (mixN b pick k r)[j]? = if j / 64 < k ∧ bitB pick (j / 64) = true then b[j]? else r[j]?
  | 0, _ => by rw [if_neg (by omega)]; rfl
  | k + 1, h => by
    have ih := mixN_get hb hr pick j hj k (by omega)
    unfold mixN
    by_cases hk : bitB pick k = true
    · rw [if_pos hk, over_get (by rw [sec_len hb (by omega), mixN_len hb hr pick k (by omega)]; omega), sec_len hb (by omega)]
      by_cases h1 : 64 * k ≤ j ∧ j < 64 * k + 64
      · have e : j / 64 = k := by omega
        rw [if_pos h1, sec_get b k j h1.1 h1.2, if_pos ⟨by omega, by rw [e]; exact hk⟩]
      · rw [if_neg h1, ih]
        by_cases h2 : j / 64 < k
        · by_cases h3 : bitB pick (j / 64) = true
          · rw [if_pos ⟨h2, h3⟩, if_pos ⟨by omega, h3⟩]
          · rw [if_neg (fun q => h3 q.2), if_neg (fun q => h3 q.2)]
        · rw [if_neg (by omega), if_neg (by omega)]
    · rw [if_neg hk, ih]
      by_cases h2 : j / 64 < k
      · by_cases h3 : bitB pick (j / 64) = true
        · rw [if_pos ⟨h2, h3⟩, if_pos ⟨by omega, h3⟩]
        · rw [if_neg (fun q => h3 q.2), if_neg (fun q => h3 q.2)]
      · rw [if_neg (by omega), if_neg]
        rintro ⟨q1, q2⟩
        have e : j / 64 = k := by omega
        exact hk (e ▸ q2)
theorem mix_get {b r : List Int} (hb : b.length = 256) (hr : r.length = 256) (pick : Int) (j : Nat) (hj : j < 256) : (mix r b pick)[j]? = if bitB pick (j / 64) = true then b[j]? else r[j]? := by
  unfold mix
  rw [mixN_get hb hr pick j hj 4 (by omega)]
  by_cases h : bitB pick (j / 64) = true
  · rw [if_pos ⟨by omega, h⟩, if_pos h]
  · rw [if_neg (fun q => h q.2), if_neg h]
theorem bit15 {k : Nat} (h : k < 4) : bitB 15 k = true := by
  have hc : k = 0 ∨ k = 1 ∨ k = 2 ∨ k = 3 := by omega
  rcases hc with rfl | rfl | rfl | rfl <;> decide +kernel
theorem mix_15 {b r : List Int} (hb : b.length = 256) (hr : r.length = 256) : mix r b 15 = b := by
  apply List.ext_getElem?
  intro j
  by_cases hj : j < 256
  · rw [mix_get hb hr 15 j hj, if_pos (bit15 (by omega))]
  · rw [List.getElem?_eq_none (by rw [mix_len hb hr]; omega), List.getElem?_eq_none (by omega)]
theorem mix_bytes {b r : List Int} (hb : b.length = 256) (hr : r.length = 256) (pick : Int) (h1 : Bytes b) (h2 : Bytes r) : Bytes (mix r b pick) := by
  intro x hx
  obtain ⟨j, hj, e⟩ := List.mem_iff_getElem.1 hx
  rw [mix_len hb hr] at hj
  have h := mix_get hb hr pick j hj
  rw [List.getElem?_eq_getElem (by rw [mix_len hb hr]; exact hj), e] at h
  split at h
  · rw [List.getElem?_eq_getElem (by omega)] at h
    injection h with h
    rw [h]
    exact h1 _ (List.getElem_mem _)
  · rw [List.getElem?_eq_getElem (by omega)] at h
    injection h with h
    rw [h]
    exact h2 _ (List.getElem_mem _)
/-- A write reaches the medium, as far as a pick has its sectors. -/
def reachB (B : List (List Int)) (x : Int × List Int) (pick : Int) : List (List Int) := B.set x.1.toNat (mix (B.getD x.1.toNat []) x.2 pick)
def fallB (B : List (List Int)) (L : List ((Int × List Int) × Int)) : List (List Int) := L.foldl (fun B x => reachB B x.1 x.2) B
def flushB (B : List (List Int)) (P : List (Int × List Int)) : List (List Int) := P.foldl (fun B x => reachB B x 15) B
theorem reachB_len (B : List (List Int)) (x : Int × List Int) (pick : Int) : (reachB B x pick).length = B.length := by simp [reachB]
theorem flushB_next (B : List (List Int)) (P : List (Int × List Int)) (k : Nat) (hk : k < P.length) : flushB B (P.take (k + 1)) = reachB (flushB B (P.take k)) P[k] 15 := by
  unfold flushB
  rw [List.take_add_one, List.getElem?_eq_getElem hk, List.foldl_append]
  rfl
theorem fallB_next (B : List (List Int)) (P : List (Int × List Int)) (ps : List Int) (k : Nat) (hk : k < P.length) (hp : k < ps.length) : fallB B ((P.zip ps).take (k + 1)) = reachB (fallB B ((P.zip ps).take k)) P[k] ps[k] := by
  unfold fallB
  rw [List.take_add_one, List.getElem?_eq_getElem (by rw [List.length_zip]; omega), List.foldl_append, List.getElem_zip]
  rfl
theorem fallB_stop (B : List (List Int)) (P : List (Int × List Int)) (ps : List Int) (k : Nat) (hp : ¬ k < ps.length) : fallB B ((P.zip ps).take (k + 1)) = fallB B ((P.zip ps).take k) := by
  rw [List.take_of_length_le (by rw [List.length_zip]; omega), List.take_of_length_le (by rw [List.length_zip]; omega)]
/-- Blocks, each of 256 bytes. -/
def BlkOk (B : List (List Int)) : Prop := ∀ b ∈ B, b.length = 256 ∧ Bytes b
def PenOk (n : Nat) (P : List (Int × List Int)) : Prop := ∀ x ∈ P, 0 ≤ x.1 ∧ x.1 < (n : Int) ∧ x.2.length = 256 ∧ Bytes x.2
theorem getD_ok {B : List (List Int)} (h : BlkOk B) {i : Nat} (hi : i < B.length) : (B.getD i []).length = 256 ∧ Bytes (B.getD i []) := by
  rw [List.getD_eq_getElem?_getD, List.getElem?_eq_getElem hi]
  exact h _ (List.getElem_mem hi)
theorem reachB_ok {B : List (List Int)} (h : BlkOk B) {x : Int × List Int} (hx : 0 ≤ x.1 ∧ x.1 < (B.length : Int) ∧ x.2.length = 256 ∧ Bytes x.2) (pick : Int) : BlkOk (reachB B x pick) := by
  intro b hb
  unfold reachB at hb
  obtain ⟨q1, q2⟩ := getD_ok h (i := x.1.toNat) (by omega)
  rcases List.mem_or_eq_of_mem_set hb with h1 | h1
  · exact h b h1
  · rw [h1]
    exact ⟨mix_len hx.2.2.1 q1 _, mix_bytes hx.2.2.1 q1 _ hx.2.2.2 q2⟩
end Go.Proofs.Ythnadkdfgckijaa.Pure
namespace Go.Proofs.Ythnadkdfgckijaa.Pure
open Go.RowKit Go.Proofs.Ythnadkdfgckijaa Go.Proofs.Ythnadkdfgckijaa.PAll Go.Proofs.Ythnadkdfgckijaa.Mem Go.Proofs.YthnadkdfgckijaaW.PrintWords Go.Proofs.YthnadkdfgckijaaW.PrintLast Go.Proofs.YthnadkdfgckijaaW.PrintMore
set_option linter.unusedVariables false
set_option linter.unusedSimpArgs false

/-- Where a part of a row begins. -/
def cutP (A : Option Addr) (c lo : Nat) : Option Addr := if c = lo then A else A.map (·.add (lo * 1))
theorem cutP_zero (A : Option Addr) (c : Nat) : cutP A c 0 = A := by
  unfold cutP
  split
  · rfl
  · cases A with
    | none => rfl
    | some a => rw [Nat.zero_mul]; simp [Addr.add]
theorem elem26 : Try.prog.elem 26 = 5 := by simp [Program.elem, Try.underlying26]
theorem info5 : (Try.prog.info? 5).map (fun i => (i.zero, i.size, i.bytes)) = some (some (.int .u8 0), 1, 1) := by kernel_rfl
theorem info5s : (Try.prog.info? 5).map (·.size) = some 1 := by kernel_rfl
theorem cutLH (A : Option Addr) (n c lo hi : Nat) (h1 : lo ≤ hi) (h2 : hi ≤ c) (W : World) : (Instr.slice 26 (.slice A n c) (some (.int .i64 (lo : Int))) (some (.int .i64 (hi : Int))) none).run Try.prog W = .ok (.slice (cutP A c lo) (hi - lo) (c - lo)) W := by
  obtain ⟨i, hi0, hz⟩ := Option.map_eq_some_iff.1 info5
  simp only [Prod.mk.injEq] at hz
  have hu : Try.prog.underlying 26 = some (.slice (Try.prog.elem 26)) := by rw [elem26]; exact Try.underlying26
  rw [run_slice_lh W 26 A n c hu .i64 .i64 (lo : Int) (hi : Int) (by omega) (by omega) (by omega), elem26]
  simp [sizeOf, typeInfo, hi0, hz, sliced, cutP, Result.andThen]
theorem cutL (A : Option Addr) (n c lo : Nat) (h1 : lo ≤ n) (W : World) : (Instr.slice 26 (.slice A n c) (some (.int .i64 (lo : Int))) none none).run Try.prog W = .ok (.slice (cutP A c lo) (n - lo) (c - lo)) W := by
  obtain ⟨i, hi0, hz⟩ := Option.map_eq_some_iff.1 info5
  simp only [Prod.mk.injEq] at hz
  have hu : Try.prog.underlying 26 = some (.slice (Try.prog.elem 26)) := by rw [elem26]; exact Try.underlying26
  rw [run_slice_l W 26 A n c hu .i64 (lo : Int) (by omega) (by omega), elem26]
  simp [sizeOf, typeInfo, hi0, hz, sliced, cutP, Result.andThen]
theorem F_cutP {w : World} {U : Nat → Prop} {A : Option Addr} {c lo : Nat} {l : List Int} (h : Kd.F (Kd.int .u8) w U A l.length l) (h1 : lo ≤ l.length) (hc : l.length ≤ c) : Kd.F (Kd.int .u8) w U (cutP A c lo) (l.drop lo).length (l.drop lo) := Kd.F_cut h h1 hc

/-- A disk's blocks: a row of rows, each in a block of its own. -/
structure RowsAt (w : World) (A : Option Addr) (c : Nat) (F : Nat → Prop) (B : List (List Int)) : Prop where
  ok : BlkOk B
  out : ∃ (gB : Nat) (gs cs : Nat → Nat) (cur : List Value), A = some ⟨gB, 0, none⟩ ∧ B.length ≤ c ∧ F gB ∧ w.heap[gB]? = some (.cells cur.toArray 26 (0, 0)) ∧
    (∀ i, i < B.length → cur[i]? = some (.slice (some ⟨gs i, 0, none⟩) 256 (cs i)) ∧ 256 ≤ cs i ∧ F (gs i) ∧ gs i ≠ gB ∧ ∃ bc : List Value, w.heap[gs i]? = some (.cells bc.toArray 5 (0, 0)) ∧ bc.take 256 = encs (Value.int .u8) (B.getD i [])) ∧
    (∀ i j, i < B.length → j < B.length → gs i = gs j → i = j)
theorem RowsAt.fr {w w' : World} {A : Option Addr} {c : Nat} {F F' : Nat → Prop} {B : List (List Int)} (h : RowsAt w A c F B) (hf : Fr F' w w') (hn : ∀ k, F k → ¬ F' k) : RowsAt w' A c F B := by
  obtain ⟨ok, gB, gs, cs, cur, h1, h2, h3, h4, h5, h6⟩ := h
  refine ⟨ok, gB, gs, cs, cur, h1, h2, h3, fr_blk hf h4 (hn _ h3), fun i hi => ?_, h6⟩
  obtain ⟨q1, q2, q3, q4, bc, q5, q6⟩ := h5 i hi
  exact ⟨q1, q2, q3, q4, bc, fr_blk hf q5 (hn _ q3), q6⟩
theorem RowsAt.below {w w' : World} {A : Option Addr} {c : Nat} {F : Nat → Prop} {B : List (List Int)} (h : RowsAt w A c F B) (hb : Below w.heap.size w w') : RowsAt w' A c F B := h.fr (F' := fun _ => False) (Fr.of_below hb) (fun _ _ h => h)
theorem RowsAt.set {w w' : World} {A : Option Addr} {c : Nat} {F : Nat → Prop} {B : List (List Int)} (h : RowsAt w A c F B) {gB : Nat} {gs cs : Nat → Nat} {cur : List Value} (h1 : A = some ⟨gB, 0, none⟩) (h2 : B.length ≤ c) (h3 : F gB) (h4 : w.heap[gB]? = some (.cells cur.toArray 26 (0, 0)))
    (h5 : ∀ i, i < B.length → cur[i]? = some (.slice (some ⟨gs i, 0, none⟩) 256 (cs i)) ∧ 256 ≤ cs i ∧ F (gs i) ∧ gs i ≠ gB ∧ ∃ bc : List Value, w.heap[gs i]? = some (.cells bc.toArray 5 (0, 0)) ∧ bc.take 256 = encs (Value.int .u8) (B.getD i []))
    (h6 : ∀ i j, i < B.length → j < B.length → gs i = gs j → i = j) {I : Nat} (hI : I < B.length) (ho : Only (gs I) w w') {bc : List Value} (hg : w'.heap[gs I]? = some (.cells bc.toArray 5 (0, 0))) {r : List Int} (ht : bc.take 256 = encs (Value.int .u8) r) (hr : r.length = 256 ∧ Bytes r) : RowsAt w' A c F (B.set I r) := by
  refine ⟨fun b hb => ?_, gB, gs, cs, cur, h1, by rw [List.length_set]; exact h2, h3, (ho.block gB (fun e => (h5 I hI).2.2.2.1 e.symm)).trans h4, fun i hi => ?_, fun i j hi hj => ?_⟩
  · rcases List.mem_or_eq_of_mem_set hb with q | q
    · exact h.ok b q
    · rw [q]; exact hr
  · rw [List.length_set] at hi
    obtain ⟨q1, q2, q3, q4, bc', q5, q6⟩ := h5 i hi
    refine ⟨q1, q2, q3, q4, ?_⟩
    by_cases e : i = I
    · subst e
      refine ⟨bc, hg, ?_⟩
      rw [List.getD_eq_getElem?_getD, List.getElem?_set, if_pos rfl, if_pos hi]
      exact ht
    · refine ⟨bc', (ho.block (gs i) (fun q => e (h6 i I hi hI q))).trans q5, ?_⟩
      rw [List.getD_eq_getElem?_getD, List.getElem?_set, if_neg (fun q => e q.symm), ← List.getD_eq_getElem?_getD]
      exact q6
  · rw [List.length_set] at hi hj
    exact h6 i j hi hj
theorem Fr.only {F : Nat → Prop} {g : Nat} {w w' : World} (h : Only g w w') (hg : F g) : Fr F w w' := ⟨h.os, h.tape, h.output, Nat.le_of_eq h.size.symm, fun k _ hn => h.block k (fun e => hn (e ▸ hg))⟩
/-- A disk's cells. -/
abbrev dkCs (A : Option Addr) (n c : Nat) (v1 v2 v3 v4 v5 : Value) : Array Value := #[.slice A n c, v1, v2, v3, v4, v5]
theorem dk_cells {w : World} {g n c : Nat} {A : Option Addr} {v1 v2 v3 v4 v5 : Value} {t : TypeId} (h : w.heap[g]? = some (.cells (dkCs A n c v1 v2 v3 v4 v5) t (0, 0))) :
    w.cell? ⟨g, 0, none⟩ = some (.slice A n c) ∧ w.cell? ⟨g, 1, none⟩ = some v1 ∧ w.cell? ⟨g, 2, none⟩ = some v2 ∧ w.cell? ⟨g, 3, none⟩ = some v3 ∧ w.cell? ⟨g, 4, none⟩ = some v4 ∧ w.cell? ⟨g, 5, none⟩ = some v5 := by
  refine ⟨?_, ?_, ?_, ?_, ?_, ?_⟩ <;> (unfold World.cell?; simp only [h]; rfl)
theorem two_cells {w : World} {g : Nat} {a b : Value} {t : TypeId} (h : w.heap[g]? = some (.cells #[a, b] t (0, 0))) : w.cell? ⟨g, 0, none⟩ = some a ∧ w.cell? ⟨g, 1, none⟩ = some b := by
  refine ⟨?_, ?_⟩ <;> (unfold World.cell?; simp only [h]; rfl)
theorem st_n {k q n : Nat} (h : k + q = n) (hl : k < n) : k + 1 + (q - 1) = n ∧ q - 1 < q := by omega
theorem en_k {k q n : Nat} (h : k + q = n) (hl : ¬ k < n) : k = n := by omega
theorem di_t {k n : Nat} (h : k < n) : decide ((k : Int) < (n : Int)) = true ∧ decide (k < n) = true := ⟨decide_eq_true (by omega), decide_eq_true h⟩
theorem di_f {k n : Nat} (h : k = n) : decide ((k : Int) < (n : Int)) = false ∧ decide (k < n) = false := ⟨decide_eq_false (by omega), decide_eq_false (by omega)⟩
theorem stepv {k n : Nat} (h : k < n) (hn : n ≤ 9223372036854775807) : Value.int .i64 (wrap64 ((k : Int) + 1)) = .int .i64 ((k + 1 : Nat) : Int) := by
  rw [show wrap64 ((k : Int) + 1) = ((k + 1 : Nat) : Int) by unfold wrap64; omega]
theorem w64id {x : Int} (h0 : -9223372036854775808 ≤ x) (h : x ≤ 9223372036854775807) : wrap64 x = x := by unfold wrap64; omega
theorem mul64 {k : Nat} (h : k < 4) : wrap64 ((k : Int) * 64) = ((64 * k : Nat) : Int) ∧ wrap64 (((64 * k : Nat) : Int) + 64) = ((64 * k + 64 : Nat) : Int) := by
  constructor
  · rw [w64id (by omega) (by omega)]; omega
  · rw [w64id (by omega) (by omega)]; omega
/-- What the copy of a sector needs and leaves. -/
theorem sec_copy {w : World} {gI cI f k : Nat} {bc : List Value} {old b : List Int} {Ab : Option Addr} {cb : Nat} {U : Nat → Prop} (hf : f = 64 * k) (hk : k < 4) (hc : 256 ≤ cI) (ht : bc.take 256 = encs (Value.int .u8) old) (ho : old.length = 256) (hb : b.length = 256) (hF : Kd.F (Kd.int .u8) w U Ab 256 b) (hcb : 256 ≤ cb) :
    ∃ cs : List Value, cs.length = 64 ∧ (0 < cs.length → cutP (some ⟨gI, 0, none⟩) cI f = some ⟨gI, f, none⟩ ∧ ∃ ad, cutP Ab cb f = some ad ∧ ∀ j v, cs[j]? = some v → w.cell? (ad.add j) = some v) ∧ f + cs.length ≤ bc.length ∧ (∀ v ∈ cs, v.oneCell' = true) ∧ (splice bc f cs).take 256 = encs (Value.int .u8) (over old f (sec b k)) := by
  subst hf
  have hs := sec_len hb hk
  have hbl : 256 ≤ bc.length := by
    have := congrArg List.length ht
    rw [List.length_take] at this
    simp only [encs, List.length_map] at this
    omega
  have hF2 : Kd.F (Kd.int .u8) w U Ab b.length b := by rw [hb]; exact hF
  have hcut := Kd.F_now (F_cutP hF2 (show 64 * k ≤ b.length by omega) (c := cb) (by omega))
  refine ⟨encs (Value.int .u8) (sec b k), by rw [encs_length, hs], fun _ => ⟨?_, ?_⟩, by rw [encs_length, hs]; omega, encs_one _ (fun _ => rfl), ?_⟩
  · unfold cutP
    rw [if_neg (by omega), Option.map_some, add_at, Nat.mul_one, Nat.zero_add]
  · obtain ⟨ad, ha, hcell⟩ := C_cells (enc := Value.int .u8) (h1 := fun _ => rfl) hcut 64 (by rw [List.length_drop]; omega) (by omega)
    exact ⟨ad, ha, hcell⟩
  · have h := splice_take (enc := Value.int .u8) (cur := bc) (l := old) (x := sec b k) (o := 64 * k) (by rw [ho]; exact ht) (by rw [hs, ho]; omega) (by rw [ho]; exact hbl)
    rw [ho] at h
    exact h
theorem over_bytes {b old : List Int} (ho : old.length = 256) (hb : b.length = 256) (pick : Int) {k : Nat} (hk : k < 4) (h1 : Bytes b) (h2 : Bytes old) : Bytes (over (mixN b pick k old) (64 * k) (sec b k)) := by
  have hm : Bytes (mixN b pick k old) := by
    intro x hx
    obtain ⟨j, hj, e⟩ := List.mem_iff_getElem.1 hx
    rw [mixN_len hb ho pick k (by omega)] at hj
    have h := mixN_get hb ho pick j hj k (by omega)
    rw [List.getElem?_eq_getElem (by rw [mixN_len hb ho pick k (by omega)]; exact hj), e] at h
    split at h
    · rw [List.getElem?_eq_getElem (by omega)] at h
      injection h with h
      rw [h]
      exact h1 _ (List.getElem_mem _)
    · rw [List.getElem?_eq_getElem (by omega)] at h
      injection h with h
      rw [h]
      exact h2 _ (List.getElem_mem _)
  intro x hx
  unfold over at hx
  rcases List.mem_append.1 hx with q | q
  · exact hm x (List.mem_of_mem_take q)
  · rcases List.mem_append.1 q with q | q
    · exact h1 x (List.mem_of_mem_drop (List.mem_of_mem_take q))
    · exact hm x (List.mem_of_mem_drop q)
attribute [local go_sem high] cutLH cutL
section
variable {w : World} {g n c cb : Nat} {A Ab : Option Addr} {v1 v2 v3 v4 v5 : Value} {FB UX : Nat → Prop} {B : List (List Int)} {I : Nat} {b : List Int}
set_option maxRecDepth 100000 in
set_option maxHeartbeats 16000000 in
theorem reach_c (hg : w.heap[g]? = some (.cells (dkCs A B.length c v1 v2 v3 v4 v5) 55 (0, 0))) (hR : RowsAt w A c FB B) (hgF : ¬ FB g) (hI : I < B.length) (hb : b.length = 256) (hby : Bytes b) (hF : Kd.F (Kd.int .u8) w UX Ab 256 b) (hcb : 256 ≤ cb) (hXU : ∀ k, UX k → ¬ FB k) (hFB : ∀ k, FB k → k < w.heap.size) (pick : Int) :
    Calls Try.prog 58 #[.pointer (some ⟨g, 0, none⟩), .agg #[.int .i64 (I : Int), .slice Ab 256 cb], .int .u8 pick] w fun e w' => e = .returned (.tuple #[]) ∧ RowsAt w' A c FB (reachB B ((I : Int), b) pick) ∧ Fr FB w w' := by
  have BN := Aside0.mk (And.intro hI (And.intro hb (And.intro hby hcb)))
  have OO := Aside0.mk (getD_ok hR.ok hI)
  have GN := Aside0.mk hgF
  have XU := Aside0.mk hXU
  have FS := Aside0.mk hFB
  obtain ⟨old, hold⟩ : ∃ o, o = B.getD I [] := ⟨_, rfl⟩
  have HO := Aside0.mk hold
  rw [← hold] at OO
  have hbn := (Below.refl w.heap.size w).alloc (Nat.le_refl _) (.cells #[.int .i64 (I : Int), .slice Ab 256 cb] 101)
  have G1 := Aside0.mk ((hbn.block _ (blk_lt hg)).trans hg)
  have R1 := Aside0.mk (show RowsAt (w.alloc (.cells #[.int .i64 (I : Int), .slice Ab 256 cb] 101)) A c FB (B.set I (mixN b pick 0 old)) from by
    have h := hR.below hbn
    have e : B.set I (mixN b pick 0 old) = B := by
      unfold mixN
      rw [hold, List.getD_eq_getElem?_getD, List.getElem?_eq_getElem hI]
      exact List.set_getElem_self hI
    rw [e]
    exact h)
  have X1 := Aside0.mk (Kd.F_below hF hbn)
  have N1 := Aside0.mk (heap_new w (.cells #[.int .i64 (I : Int), .slice Ab 256 cb] 101))
  have F1 := Aside0.mk (Fr.of_below (F := FB) hbn)
  have NN := Aside0.mk (show ¬ FB w.heap.size from fun h => Nat.lt_irrefl _ (hFB _ h))
  clear hI hb hby hcb hgF hXU hold hbn hg hR hF hFB
  go_enter Try.func58, Try.ntmps58
  go_wp2_with fail
  obtain ⟨w1, hw1⟩ : ∃ x, x = w.alloc (.cells #[.int .i64 (I : Int), .slice Ab 256 cb] 101) := ⟨_, rfl⟩
  rw [← hw1] at G1 R1 X1 N1 F1 ⊢
  clear hw1
  obtain ⟨g4, hg4⟩ : ∃ x, x = w.heap.size := ⟨_, rfl⟩
  rw [← hg4] at N1 NN ⊢
  clear hg4
  go_loopg [8] 4 (fun q v8 w' => ∃ (k : Nat), v8 = .int .i64 (k : Int) ∧ Aside0 (k + q = 4) ∧ Aside0 (RowsAt w' A c FB (B.set I (mixN b pick k old))) ∧ Aside0 (Fr FB w1 w'))
  case atStart => exact ⟨0, rfl, ⟨rfl⟩, R1, ⟨Fr.refl _ _⟩⟩
  case round =>
    clear R1
    obtain ⟨k, rfl, HJ, RR, FF⟩ := hrel
    by_cases hlt : k < 4
    case pos =>
      have hgd : decide ((k : Int) < 4) = true := (di_t hlt).1
      have hgd2 : decide (k < 4) = true := (di_t hlt).2
      have HN := Aside0.mk (st_n HJ.out hlt).1
      have HM := Aside0.mk (st_n HJ.out hlt).2
      have HV := Aside0.mk (stepv hlt (by decide))
      have HK := Aside0.mk hlt
      obtain ⟨bt, hbt⟩ : ∃ x, x = bitB pick k := ⟨_, rfl⟩
      have BT := Aside0.mk hbt
      have hbt2 : (Go.bits .and .u8 (pick / 2 ^ min k 8) 1 == 1) = bt := hbt.symm
      clear hbt HJ
      cases bt
      case false =>
        have R2 := Aside0.mk (show RowsAt wr A c FB (B.set I (mixN b pick (k + 1) old)) from by rw [mixN, if_neg (by rw [← BT.out]; decide)]; exact RR.out)
        clear hlt
        go_wp2_with fail
        go_roundg (gk - 1)
        case measure => exact HM.out
        case rel => exact ⟨k + 1, HV.out, HN, R2, FF⟩
      case true =>
        obtain ⟨ok, gB, gs, cs, cur, rfl, q2, q3, q4, q5, q6⟩ := RR.out
        have hIB := BN.out.1
        obtain ⟨t1, t2, t3, t4, bc, t5, t6⟩ := q5 I (by rw [List.length_set]; exact hIB)
        rw [List.getD_eq_getElem?_getD, List.getElem?_set, if_pos rfl, if_pos hIB, Option.getD_some] at t6
        have OL := Aside0.mk (mixN_len BN.out.2.1 OO.out.1 pick k (Nat.le_of_lt hlt))
        obtain ⟨m64, m64b⟩ := mul64 hlt
        have g0 := fr_blk FF.out G1.out GN.out
        have n0 := fr_blk FF.out N1.out NN.out
        obtain ⟨f, hf⟩ : ∃ f, f = 64 * k := ⟨_, rfl⟩
        obtain ⟨t, ht⟩ : ∃ t, t = f + 64 := ⟨_, rfl⟩
        rw [← hf] at m64 m64b
        rw [← ht] at m64b
        have htf : t - f = 64 := by omega
        have hft : f ≤ t := by omega
        have m64c : (f : Int) + 64 = (t : Int) := by omega
        have m64d : wrap64 (t : Int) = (t : Int) := w64id (by omega) (by omega)
        have m64e : IntKind.i64.wrap (t : Int) = (t : Int) := by rw [i64_w]; exact m64d
        clear m64b
        have htc : t ≤ cs I := by omega
        have hf256 : f ≤ 256 := by omega
        have hf255 : f ≤ 256 := hf256
        have XW := Aside0.mk (F_fr X1.out FF.out XU.out)
        obtain ⟨es, a1, a2, a3, a4, a5⟩ := sec_copy (w := wr.drew) (gI := gs I) hf hlt t2 t6 OL.out BN.out.2.1 (Kd.F_drew XW.out) BN.out.2.2.2
        have A1 := Aside0.mk (show es.length = Nat.min (256 - f) 64 from by rw [a1]; exact (Nat.min_eq_right (by omega)).symm)
        have A2 := Aside0.mk a2
        have A3 := Aside0.mk a3
        have A4 := Aside0.mk a4
        have A5 := Aside0.mk a5
        have T1 := Aside0.mk (show wr.drew.heap[gs I]? = some (.cells bc.toArray 5 (0, 0)) from t5)
        have R2 := Aside0.mk (fun (w7 : World) (ho : Only (gs I) wr.drew w7) (hg7 : w7.heap[gs I]? = some (.cells (splice bc f es).toArray 5 (0, 0))) => (RowsAt.below RR.out (below_drew (Below.refl _ _))).set rfl q2 q3 q4 q5 q6 (I := I) (by rw [List.length_set]; exact hIB) ho hg7 a5 ⟨by rw [hf]; exact (by have := mixN_len BN.out.2.1 OO.out.1 pick (k + 1) hlt; rw [mixN, if_pos (by rw [← BT.out])] at this; exact this), by rw [hf]; exact over_bytes OO.out.1 BN.out.2.1 pick hlt BN.out.2.2.1 OO.out.2⟩)
        have R3 := Aside0.mk (show (B.set I (mixN b pick k old)).set I (over (mixN b pick k old) f (sec b k)) = B.set I (mixN b pick (k + 1) old) from by rw [List.set_set, mixN, if_pos (by rw [← BT.out]), hf])
        have FG := Aside0.mk (show FB (gs I) from t3)
        obtain ⟨z0, z1, z2, z3, z4, z5⟩ := dk_cells g0
        obtain ⟨y0, y1⟩ := two_cells n0
        have x0 : wr.cell? ⟨gB, I, none⟩ = some (.slice (some ⟨gs I, 0, none⟩) 256 (cs I)) := by rw [blk_cell q4]; simpa using t1
        have hIc : I < B.length := hIB
        clear ok q2 q3 q4 q5 q6 t1 t2 t3 t4 t5 t6 g0 n0 hf ht a1 a2 a3 a4 a5 z1 z2 z3 z4 z5 RR hlt hIB
        go_wp2_with fail
        rw [m64]
        clear m64 hf256
        go_region_law (refine step_copy_only rfl (.tmp 29) (.tmp 33) 26 26 rfl 5 Try.underlying26 info5s (cutP (some ⟨gs I, 0, none⟩) (cs I) f) (cutP Ab cb f) 64 (cs I - f) (256 - f) (cb - f) rfl rfl (gs I) f bc 5 T1.out es A1.out A2.out A3.out A4.out ?_; intro w7 hg7 hb7)
        all_goals
          have R7 := Aside0.mk (R2.out w7 hb7.out hg7.out)
          rw [R3.out] at R7
          have F7 := Aside0.mk ((FF.out.then_ (Fr.of_below (below_drew (Below.refl _ _)))).then_ (Fr.only hb7.out FG.out))
          clear hg7 hb7
          go_wp2_with fail
          go_roundg (gk - 1)
          case measure => exact HM.out
          case rel => exact ⟨k + 1, HV.out, HN, R7, F7⟩
    have hke : k = 4 := en_k HJ.out hlt
    subst hke
    have hge : decide (((4 : Nat) : Int) < 4) = false := by decide
    clear hlt
    go_wp2_with fail
    go_end0
    refine ⟨rfl, ?_, F1.out.then_ FF.out⟩
    unfold reachB mix
    rw [Int.toNat_natCast, ← HO.out]
    exact RR.out
end
end Go.Proofs.Ythnadkdfgckijaa.Pure
namespace Go.Proofs.Ythnadkdfgckijaa.Pure
open Go.RowKit Go.Proofs.Ythnadkdfgckijaa Go.Proofs.Ythnadkdfgckijaa.PAll Go.Proofs.Ythnadkdfgckijaa.Mem Go.Proofs.YthnadkdfgckijaaW.PrintWords Go.Proofs.YthnadkdfgckijaaW.PrintLast Go.Proofs.YthnadkdfgckijaaW.PrintMore
set_option linter.unusedVariables false
set_option linter.unusedSimpArgs false

/-- A disk's state. -/
structure DS where
  B : List (List Int)
  P : List (Int × List Int)
  off : Bool
  ops : Int
  armed : Int
  picks : List Int
/-- A write that is pending, as it lies in memory. -/
def kW : Kd (Int × List Int) := Kd.pair (Kd.int .i64) (Kd.slice 5 (Kd.int .u8))
theorem pen_at {w : World} {U : Nat → Prop} {A : Option Addr} {n : Nat} {P : List (Int × List Int)} (h : Kd.F kW w U A n P) {k : Nat} (hk : k < P.length) :
    ∃ ad Ab cb, A = some ad ∧ w.cell? (ad.add (k * 2)) = some (.int .i64 (P[k]).1) ∧ w.cell? ⟨(ad.add (k * 2)).block, (ad.add (k * 2)).off + 1, none⟩ = some (.slice Ab (P[k]).2.length cb) ∧ (P[k]).2.length ≤ cb ∧ Kd.F (Kd.int .u8) w U Ab (P[k]).2.length (P[k]).2 := by
  have hn := Kd.F_len h
  obtain ⟨ad, cs, hA, hcl, hK, hcell, _⟩ := Kd.F_get h (0, []) (k : Int) (by omega) (by omega)
  rw [Int.toNat_natCast, List.getD_eq_getElem?_getD, List.getElem?_eq_getElem hk, Option.getD_some] at hK
  rw [Int.toNat_natCast] at hcell
  obtain ⟨c0, c1, hcs, h0, Ab, cb, h1, h2, h3⟩ := Kd.FK_now hK
  have h0' : c0 = [.int .i64 (P[k]).1] := h0
  subst h0' h1
  rw [hcs] at hcell
  have q0 := hcell 0 _ rfl
  have q1 := hcell 1 _ rfl
  have hs : kW.sz = 2 := rfl
  rw [hs, Nat.add_zero] at q0
  rw [hs, add_field ad (k * 2) 1 (by decide)] at q1
  refine ⟨ad, Ab, cb, hA, q0, q1, h2, fun W' hW => ?_⟩
  obtain ⟨d0, d1, hds, g0, Ab', cb', g1, g2, g3⟩ := hK W' hW
  have g0' : d0 = [.int .i64 (P[k]).1] := g0
  rw [hcs, g0', g1] at hds
  simp only [List.cons_append, List.nil_append, List.cons.injEq, Value.slice.injEq, true_and, and_true] at hds
  rw [hds.1]
  exact g3
theorem pen_make {w : World} {base : Nat} {ok : Nat → Prop} {i : Int} {Ab : Option Addr} {cb : Nat} {b : List Int} (h : Kd.R (Kd.int .u8) 5 w base ok (.slice Ab b.length cb) b) : kW.M w base ok (i, b) [.int .i64 i, .slice Ab b.length cb] :=
  ⟨[.int .i64 i], [.slice Ab b.length cb], rfl, rfl, _, rfl, h⟩
/-- A disk at block g; what it is made of lies in U. -/
structure DK (w : World) (g : Nat) (U : Nat → Prop) (s : DS) : Prop where
  lt : ∀ k, U k → k < w.heap.size
  ug : U g
  pen : PenOk s.B.length s.P
  pos : 0 < s.B.length
  out : ∃ (A Ak : Option Addr) (c ck : Nat) (vP : Value) (FB FW FK : Nat → Prop), w.heap[g]? = some (.cells (dkCs A s.B.length c vP (.bool s.off) (.int .i64 s.ops) (.int .i64 s.armed) (.slice Ak s.picks.length ck)) 55 (0, 0)) ∧ RowsAt w A c FB s.B ∧ Kd.R kW 101 w 0 FW vP s.P ∧
    Kd.F (Kd.int .u8) w FK Ak s.picks.length s.picks ∧ s.picks.length ≤ ck ∧ (∀ k, FB k → U k ∧ k ≠ g) ∧ (∀ k, FW k → U k ∧ k ≠ g ∧ ¬ FB k) ∧ (∀ k, FK k → U k ∧ k ≠ g ∧ ¬ FB k ∧ ¬ FW k)
theorem DK.fr {w w' : World} {g : Nat} {U F : Nat → Prop} {s : DS} (h : DK w g U s) (hf : Fr F w w') (hn : ∀ k, U k → ¬ F k) : DK w' g U s := by
  obtain ⟨lt, ug, pen, pos, A, Ak, c, ck, vP, FB, FW, FK, h1, h2, h3, h4, h5, h6, h7, h8⟩ := h
  exact ⟨fun k hk => Nat.lt_of_lt_of_le (lt k hk) hf.size, ug, pen, pos, A, Ak, c, ck, vP, FB, FW, FK, fr_blk hf h1 (hn _ ug), h2.fr hf (fun k hk => hn k (h6 k hk).1), Kd.R_step h3 (fun k hk hlt => hf.block k hlt (hn k (h7 k hk).1)), F_fr h4 hf (fun k hk => hn k (h8 k hk).1), h5, h6, h7, h8⟩
theorem DK.below {w w' : World} {g : Nat} {U : Nat → Prop} {s : DS} (h : DK w g U s) (hb : Below w.heap.size w w') : DK w' g U s := h.fr (F := fun _ => False) (Fr.of_below hb) (fun _ _ h => h)
/-- What a call does to a disk: it is another state, in what it had and what is new. -/
def Does (w w' : World) (g : Nat) (U : Nat → Prop) (s : DS) : Prop := Fr U w w' ∧ ∃ U' : Nat → Prop, DK w' g U' s ∧ ∀ k, U' k → U k ∨ w.heap.size ≤ k
theorem Does.then_ {w w1 w2 : World} {g : Nat} {U : Nat → Prop} {s : DS} {Q : (Nat → Prop) → Prop} (h1 : Fr U w w1) {U1 : Nat → Prop} (hU : ∀ k, U1 k → U k ∨ w.heap.size ≤ k) (h2 : Does w1 w2 g U1 s) : Does w w2 g U s := by
  obtain ⟨f2, U2, d2, u2⟩ := h2
  exact ⟨h1.trans f2 hU, U2, d2, fun k hk => (u2 k hk).elim (hU k) (fun q => .inr (Nat.le_trans h1.size q))⟩
theorem Does.same {w w' : World} {g : Nat} {U : Nat → Prop} {s : DS} (h : DK w g U s) (hb : Below w.heap.size w w') : Does w w' g U s := ⟨Fr.of_below hb, U, h.below hb, fun _ h => .inl h⟩
/-- What is wrong with asking. -/
def canS (s : DS) : Int := if s.off = true then 5 else 0
def placeS (s : DS) (i : Int) : Int := if s.off = true then 5 else if i < 0 ∨ i ≥ (s.B.length : Int) then 30 else 0
def fallsS (s : DS) (ps : List Int) : DS := { s with B := fallB s.B (s.P.zip ps), P := [], off := true, armed := 0, picks := [] }
def goesS (s : DS) : Bool × DS :=
  if s.armed = 0 then (false, { s with ops := wrap64 (s.ops + 1) })
  else if wrap64 (s.armed - 1) > 0 then (false, { s with ops := wrap64 (s.ops + 1), armed := wrap64 (s.armed - 1) })
  else (true, fallsS { s with ops := wrap64 (s.ops + 1), armed := wrap64 (s.armed - 1) } s.picks)
def writeS (s : DS) (i : Int) (b : List Int) : Int × DS :=
  if placeS s i ≠ 0 then (placeS s i, s) else if b.length ≠ 256 then (31, s)
  else let r := goesS { s with P := s.P ++ [(i, b)] }; (if r.1 = true then 5 else 0, r.2)
def flushS (s : DS) : Int × DS :=
  if s.off = true then (5, s) else let r := goesS s; if r.1 = true then (5, r.2) else (0, { r.2 with B := flushB r.2.B r.2.P, P := [] })
def crashS (s : DS) (ps : List Int) : Int × DS := if s.off = true then (5, s) else (0, fallsS s ps)
def restartS (s : DS) : Int × DS := if s.off = true then (0, { s with off := false }) else (7, s)
end Go.Proofs.Ythnadkdfgckijaa.Pure
namespace Go.Proofs.Ythnadkdfgckijaa.Pure
open Go.RowKit Go.Proofs.Ythnadkdfgckijaa Go.Proofs.Ythnadkdfgckijaa.PAll Go.Proofs.Ythnadkdfgckijaa.Mem Go.Proofs.YthnadkdfgckijaaW.PrintWords Go.Proofs.YthnadkdfgckijaaW.PrintLast Go.Proofs.YthnadkdfgckijaaW.PrintMore
set_option linter.unusedVariables false
set_option linter.unusedSimpArgs false
set_option linter.unusedSectionVars false

section
variable {w : World} {g n c : Nat} {A : Option Addr} {v1 v3 v4 v5 : Value} {off : Bool} (hg : w.heap[g]? = some (.cells (dkCs A n c v1 (.bool off) v3 v4 v5) 55 (0, 0)))
include hg
set_option maxRecDepth 100000 in
theorem len_b : Calls Try.prog 32 #[.pointer (some ⟨g, 0, none⟩)] w fun ex w' => ex = .returned (.int .i64 (n : Int)) ∧ Below w.heap.size w w' := by
  have K0 := Aside0.mk (Below.refl w.heap.size w)
  obtain ⟨z0, z1, z2, z3, z4, z5⟩ := dk_cells hg
  clear hg
  go_enter Try.func32, Try.ntmps32
  go_wp2_with fail
  go_ret
  exact ⟨rfl, K0.out⟩
set_option maxRecDepth 100000 in
theorem can_b (hn : 0 < n) : Calls Try.prog 57 #[.pointer (some ⟨g, 0, none⟩)] w fun ex w' => ex = .returned (.int .i64 (if off = true then 5 else 0)) ∧ Below w.heap.size w w' := by
  have G0 := Aside0.mk hg
  have h0 : (n == 0) = false := by simp; omega
  have h1 : ((n : Int) == 0) = false := by simp; omega
  clear hg hn
  go_enter Try.func57, Try.ntmps57
  go_wp2_with fail
  refine (len_b G0.out).mono ?_
  rintro ex w1 ⟨rfl, hb⟩
  have K1 := Aside0.mk hb
  have G1 := Aside0.mk ((hb.block _ (blk_lt G0.out)).trans G0.out)
  clear hb
  obtain ⟨z0, z1, z2, z3, z4, z5⟩ := dk_cells G1.out
  cases off
  · go_wp2_with fail
    go_ret
    exact ⟨rfl, K1.out⟩
  · go_wp2_with fail
    go_ret
    exact ⟨rfl, K1.out⟩
set_option maxRecDepth 100000 in
theorem place_b (hn : 0 < n) (i r : Int) (hr : (if off = true then 5 else if i < 0 ∨ i ≥ (n : Int) then 30 else 0) = r) : Calls Try.prog 54 #[.pointer (some ⟨g, 0, none⟩), .int .i64 i] w fun ex w' => ex = .returned (.int .i64 r) ∧ Below w.heap.size w w' := by
  have HR := Aside0.mk hr
  clear hr
  have G0 := Aside0.mk hg
  have HN := Aside0.mk hn
  clear hg hn
  go_enter Try.func54, Try.ntmps54
  go_wp2_with fail
  refine (can_b G0.out HN.out).mono ?_
  rintro ex w1 ⟨rfl, hb⟩
  have K1 := Aside0.mk hb
  have G1 := Aside0.mk ((hb.block _ (blk_lt G0.out)).trans G0.out)
  clear hb
  obtain ⟨z0, z1, z2, z3, z4, z5⟩ := dk_cells G1.out
  cases off
  · rw [if_neg (by decide)]
    by_cases h1 : i < 0
    · have hr := HR.out
      rw [if_neg (by decide), if_pos (.inl h1)] at hr
      subst hr
      have hg1 : decide (i < 0) = true := decide_eq_true h1
      clear h1 HR
      go_wp2_with fail
      go_ret
      exact ⟨rfl, K1.out⟩
    · have hg1 : decide (i < 0) = false := decide_eq_false h1
      by_cases h2 : i ≥ (n : Int)
      · have hr := HR.out
        rw [if_neg (by decide), if_pos (.inr h2)] at hr
        subst hr
        have hg2 : decide (i ≥ (n : Int)) = true := decide_eq_true h2
        have hg3 : decide ((n : Int) ≤ i) = true := decide_eq_true h2
        clear h1 h2 HR
        go_wp2_with fail
        go_ret
        exact ⟨rfl, K1.out⟩
      · have hr := HR.out
        rw [if_neg (by decide), if_neg (by omega)] at hr
        subst hr
        have hg2 : decide (i ≥ (n : Int)) = false := decide_eq_false h2
        have hg3 : decide ((n : Int) ≤ i) = false := decide_eq_false h2
        clear h1 h2 HR
        go_wp2_with fail
        go_ret
        exact ⟨rfl, K1.out⟩
  · rw [if_pos rfl]
    have hr := HR.out
    rw [if_pos rfl] at hr
    subst hr
    go_wp2_with fail
    go_ret
    exact ⟨rfl, K1.out⟩
set_option maxRecDepth 100000 in
theorem on_b (hn : 0 < n) : Calls Try.prog 31 #[.pointer (some ⟨g, 0, none⟩)] w fun ex w' => ex = .returned (.bool (!off)) ∧ Below w.heap.size w w' := by
  have G0 := Aside0.mk hg
  have HN := Aside0.mk hn
  clear hg hn
  go_enter Try.func31, Try.ntmps31
  go_wp2_with fail
  refine (can_b G0.out HN.out).mono ?_
  rintro ex w1 ⟨rfl, hb⟩
  have K1 := Aside0.mk hb
  clear hb
  cases off
  · rw [if_neg (by decide)]
    go_wp2_with fail
    go_ret
    exact ⟨by simp, K1.out⟩
  · rw [if_pos rfl]
    go_wp2_with fail
    go_ret
    exact ⟨by simp, K1.out⟩
set_option maxRecDepth 100000 in
theorem restart_b (hn : 0 < n) : Calls Try.prog 30 #[.pointer (some ⟨g, 0, none⟩)] w fun ex w' => ex = .returned (.int .i64 (if off = true then 0 else 7)) ∧ w'.heap[g]? = some (.cells (dkCs A n c v1 (.bool false) v3 v4 v5) 55 (0, 0)) ∧ Fr (· = g) w w' := by
  have G0 := Aside0.mk hg
  have HN := Aside0.mk hn
  clear hg hn
  go_enter Try.func30, Try.ntmps30
  go_wp2_with fail
  refine (can_b G0.out HN.out).mono ?_
  rintro ex w1 ⟨rfl, hb⟩
  have K1 := Aside0.mk (Fr.of_below (F := (· = g)) hb)
  have G1 := Aside0.mk ((hb.block _ (blk_lt G0.out)).trans G0.out)
  have y2 := blk_frozen G1.out 2
  clear hb
  obtain ⟨z0, z1, z2, z3, z4, z5⟩ := dk_cells G1.out
  cases off
  · rw [if_neg (by decide)]
    go_wp2_with fail
    go_ret
    exact ⟨rfl, G1.out, K1.out⟩
  · rw [if_pos rfl]
    go_wp2_with fail
    go_ret
    refine ⟨rfl, ?_, Fr.set (F := (· = g)) (p := ⟨g, 2, none⟩) K1.out rfl _⟩
    rw [blk_set G1.out 2 _]
    simp
end
theorem fallB_len (B : List (List Int)) (L : List ((Int × List Int) × Int)) : (fallB B L).length = B.length := by
  unfold fallB
  induction L generalizing B with
  | nil => rfl
  | cons x L ih => rw [List.foldl_cons, ih, reachB_len]
theorem flushB_len (B : List (List Int)) (L : List (Int × List Int)) : (flushB B L).length = B.length := by
  unfold flushB
  induction L generalizing B with
  | nil => rfl
  | cons x L ih => rw [List.foldl_cons, ih, reachB_len]
theorem pen_get {n : Nat} {P : List (Int × List Int)} (h : PenOk n P) {k : Nat} (hk : k < P.length) : ∃ (I : Nat) (b : List Int), P[k] = ((I : Int), b) ∧ I < n ∧ b.length = 256 ∧ Bytes b := by
  obtain ⟨h1, h2, h3, h4⟩ := h P[k] (List.getElem_mem hk)
  exact ⟨(P[k]).1.toNat, (P[k]).2, Prod.ext (by simp; omega) rfl, by omega, h3, h4⟩
theorem u8_at {w : World} {U : Nat → Prop} {A : Option Addr} {n : Nat} {l : List Int} (h : Kd.F (Kd.int .u8) w U A n l) {k : Nat} (hk : k < l.length) : ∃ ad, A = some ad ∧ w.cell? (ad.add k) = some (.int .u8 l[k]) := by
  have hn := Kd.F_len h
  obtain ⟨ad, hA, hc⟩ := C_cells (enc := Value.int .u8) (h1 := fun _ => rfl) (Kd.F_now h) n (Nat.le_refl _) (by omega)
  refine ⟨ad, hA, hc k _ ?_⟩
  rw [List.take_of_length_le (by omega)]
  simp [encs, List.getElem?_eq_getElem hk]
theorem add_block (a : Addr) (k : Nat) : (a.add k).block = a.block := by
  unfold Addr.add
  split <;> rfl
theorem ok_of {w : World} {U : Nat → Prop} {A : Option Addr} {n : Nat} {l : List Int} (h : Kd.F (Kd.int .u8) w U A n l) {k : Nat} (hk : k < l.length) {ad : Addr} (hA : A = some ad) : U ad.block := by
  have hn := Kd.F_len h
  obtain ⟨ad', cs, hA', hcl, hK, hcell, hok⟩ := Kd.F_get h 0 (k : Int) (by omega) (by omega)
  rw [hA] at hA'
  injection hA' with e
  rw [e]
  exact hok (by decide)
theorem cell_fr {w w' : World} {F : Nat → Prop} (hf : Fr F w w') {a : Addr} (hn : ¬ F a.block) {v : Value} (h : w.cell? a = some v) : w'.cell? a = some v := by
  have hb : w'.heap[a.block]? = w.heap[a.block]? := by
    refine hf.block a.block ?_ hn
    rcases Nat.lt_or_ge a.block w.heap.size with h1 | h1
    · exact h1
    · unfold World.cell? at h
      rw [Array.getElem?_eq_none h1] at h
      cases h
  rw [World.cell?_of_block hb]
  exact h
section
variable {w : World} {g c ck : Nat} {A Ak : Option Addr} {vP v2 v3 v4 v5 : Value} {FB FW UX : Nat → Prop} {B : List (List Int)} {P : List (Int × List Int)} {ps : List Int}
set_option maxRecDepth 100000 in
set_option maxHeartbeats 16000000 in
theorem falls_b (hg : w.heap[g]? = some (.cells (dkCs A B.length c vP v2 v3 v4 v5) 55 (0, 0))) (hR : RowsAt w A c FB B) (hP : Kd.R kW 101 w 0 FW vP P) (hpen : PenOk B.length P) (hgF : ¬ FB g) (hWF : ∀ k, FW k → ¬ FB k) (hFB : ∀ k, FB k → k < w.heap.size)
    (hK : Kd.F (Kd.int .u8) w UX Ak ps.length ps) (hck : ps.length ≤ ck) (hXF : ∀ k, UX k → ¬ FB k) :
    Calls Try.prog 62 #[.pointer (some ⟨g, 0, none⟩), .slice Ak ps.length ck] w fun ex w' => ex = .returned (.tuple #[]) ∧ RowsAt w' A c FB (fallB B (P.zip ps)) ∧ w'.heap[g]? = some (.cells (dkCs A B.length c (.slice none 0 0) (.bool true) v3 (.int .i64 0) (.slice none 0 0)) 55 (0, 0)) ∧ Fr (fun k => FB k ∨ k = g) w w' := by
  obtain ⟨AP, cP, rfl, hcP, hPF⟩ := R_own hP
  have G0 := Aside0.mk hg
  have R0 := Aside0.mk (show RowsAt w A c FB (fallB B ((P.zip ps).take 0)) from hR)
  have PF := Aside0.mk hPF
  have PN := Aside0.mk hpen
  have GF := Aside0.mk hgF
  have WF := Aside0.mk hWF
  have FS := Aside0.mk hFB
  have KF := Aside0.mk hK
  have XF := Aside0.mk hXF
  have HL := Aside0.mk (Kd.F_max hPF)
  obtain ⟨z0, z1, z2, z3, z4, z5⟩ := dk_cells hg
  clear hg hR hP hpen hgF hWF hFB hK hXF hPF
  go_enter Try.func62, Try.ntmps62
  go_wp2_with fail
  clear z0 z1 z2 z3 z4 z5
  go_loopg [11] P.length (fun q v11 w' => ∃ (k : Nat), v11 = .int .i64 (k : Int) ∧ Aside0 (k + q = P.length) ∧ Aside0 (RowsAt w' A c FB (fallB B ((P.zip ps).take k))) ∧ Aside0 (Fr FB w w'))
  case atStart => exact ⟨0, rfl, ⟨Nat.zero_add _⟩, R0, ⟨Fr.refl _ _⟩⟩
  case round =>
    clear R0
    obtain ⟨k, rfl, HJ, RR, FF⟩ := hrel
    by_cases hlt : k < P.length
    case pos =>
      have hgd := (di_t hlt).1
      have hgd2 := (di_t hlt).2
      have HN := Aside0.mk (st_n HJ.out hlt).1
      have HM := Aside0.mk (st_n HJ.out hlt).2
      have HV := Aside0.mk (stepv hlt HL.out)
      obtain ⟨ad, Ab, cb, hAP, q0, q1, hcb, hbF⟩ := pen_at (F_fr PF.out FF.out WF.out) hlt
      obtain ⟨I, b, hPk, hI, hb, hby⟩ := pen_get PN.out hlt
      rw [hPk] at q0 q1 hcb hbF
      simp only at q0 q1 hcb hbF
      rw [hb] at q1 hcb hbF
      cases hAP
      have PK := Aside0.mk hPk
      have BI := Aside0.mk (And.intro hI (And.intro hb (And.intro hby hcb)))
      have BF := Aside0.mk hbF
      have LT := Aside0.mk hlt
      have GS := Aside0.mk FF.out.size
      clear hPk hI hb hby hcb hbF HJ
      go_upto_region 3 with fail
      clear q0 q1
      have hbn := (Below.refl wr.heap.size wr).alloc (Nat.le_refl _) (.cells #[.int .i64 (I : Int), .slice Ab 256 cb] 101)
      have N5 := Aside0.mk (heap_new wr (.cells #[.int .i64 (I : Int), .slice Ab 256 cb] 101))
      have NF := Aside0.mk (show ¬ FB wr.heap.size from fun h => Nat.lt_irrefl _ (Nat.lt_of_lt_of_le (FS.out _ h) GS.out))
      replace RR := Aside0.mk (RR.out.below hbn)
      replace FF := Aside0.mk (FF.out.then_ (Fr.of_below hbn))
      replace BF := Aside0.mk (Kd.F_below BF.out hbn)
      obtain ⟨w5, hw5⟩ : ∃ x, x = wr.alloc (.cells #[.int .i64 (I : Int), .slice Ab 256 cb] 101) := ⟨_, rfl⟩
      rw [← hw5] at N5 RR FF BF ⊢
      clear hw5 hbn GS
      obtain ⟨g5, hg5⟩ : ∃ x, x = wr.heap.size := ⟨_, rfl⟩
      rw [← hg5] at N5 NF ⊢
      clear hg5
      by_cases hkp : k < ps.length
      case pos =>
        have hkd := (di_t hkp).1
        have hkd2 := (di_t hkp).2
        obtain ⟨ak, hAk, u0⟩ := u8_at (F_fr KF.out FF.out XF.out) hkp
        cases hAk
        obtain ⟨pk, hpk⟩ : ∃ x, x = ps[k] := ⟨_, rfl⟩
        have NX := Aside0.mk (fallB_next B P ps k LT.out hkp)
        rw [PK.out, ← hpk] at NX
        rw [← hpk] at u0
        obtain ⟨y0, y1⟩ := two_cells N5.out
        go_upto_region 4 with fail
        have hd : Below w5.heap.size w5 w5.drew := below_drew (Below.refl _ _)
        replace RR := Aside0.mk (RR.out.below hd)
        replace FF := Aside0.mk (FF.out.then_ (Fr.of_below hd))
        replace BF := Aside0.mk (Kd.F_below BF.out hd)
        have GG := Aside0.mk (fr_blk FF.out G0.out GF.out)
        have ND := Aside0.mk (show w5.drew.heap[g5]? = _ from N5.out)
        have AKB := Aside0.mk (show ¬ FB ak.block from XF.out _ (ok_of KF.out hkp rfl))
        have FS5 := Aside0.mk (show ∀ q, FB q → q < w5.drew.heap.size from fun q hq => Nat.lt_of_lt_of_le (FS.out q hq) FF.out.size)
        have u1 : w5.drew.cell? (ak.add k) = some (.int .u8 pk) := u0
        have UU := Aside0.mk u1
        have RC := Aside0.mk (reach_c (A := A) (c := c) (FB := FB) (UX := FW) (B := fallB B ((P.zip ps).take k)) (by rw [fallB_len]; exact GG.out) RR.out GF.out (I := I) (by rw [fallB_len]; exact BI.out.1) BI.out.2.1 BI.out.2.2.1 BF.out BI.out.2.2.2 WF.out FS5.out pk)
        rw [← NX.out] at RC
        clear hd u1 hpk
        go_region_held3 (fun w' => w'.cell? ⟨g5, 0, none⟩ = some (.int .i64 (I : Int)) ∧ w'.cell? ⟨g5, 1, none⟩ = some (.slice Ab 256 cb) ∧ w'.cell? (ak.add k) = some (.int .u8 pk)) (go_keep)
          (first
            | (go_at_call 58; refine RC.out.mono ?_; rintro e wn ⟨rfl, hR, hf⟩; have RN := Aside0.mk hR; have FN := Aside0.mk (FF.out.then_ hf); have NN := Aside0.mk (fr_blk hf ND.out NF.out); have u2 := (cell_fr hf (a := ak.add k) (by rw [add_block]; exact AKB.out) UU.out); clear hR hf y0 y1 u0 RC; obtain ⟨y0, y1⟩ := two_cells NN.out))
        clear y0 y1
        go_wp2_with fail
        go_roundg (gk - 1)
        case measure => exact HM.out
        case rel => exact ⟨k + 1, HV.out, HN, RN, FN⟩
      case neg =>
        have hkd : decide ((k : Int) < (ps.length : Int)) = false := decide_eq_false (by omega)
        have hkd2 : decide (k < ps.length) = false := decide_eq_false hkp
        have NX := Aside0.mk (fallB_stop B P ps k hkp)
        rw [← NX.out] at RR
        clear hkp
        go_wp2_with fail
        go_roundg (gk - 1)
        case measure => exact HM.out
        case rel => exact ⟨k + 1, HV.out, HN, RR, FF⟩
    have hke : k = P.length := en_k HJ.out hlt
    have hge := (di_f hke).1
    have hge2 := (di_f hke).2
    have RE := Aside0.mk (show RowsAt wr A c FB (fallB B (P.zip ps)) from by
      have h := RR.out
      rw [List.take_of_length_le (by rw [hke, List.length_zip]; omega)] at h
      exact h)
    have GE := Aside0.mk (fr_blk FF.out G0.out GF.out)
    have y1 := blk_frozen GE.out 1
    have y2 := blk_frozen GE.out 2
    have y4 := blk_frozen GE.out 4
    have y5 := blk_frozen GE.out 5
    clear hlt hke RR HJ
    obtain ⟨z0, z1, z2, z3, z4, z5⟩ := dk_cells GE.out
    go_wp2_with fail
    go_end0
    have f1 : Fr (fun k => FB k ∨ k = g) w wr := FF.out.mono (fun k h => .inl h)
    have s1 := Fr.set (p := ⟨g, 1, none⟩) f1 (.inr rfl) (.slice none 0 0)
    have s2 := Fr.set (p := ⟨g, 5, none⟩) s1 (.inr rfl) (.slice none 0 0)
    have s3 := Fr.set (p := ⟨g, 2, none⟩) s2 (.inr rfl) (.bool true)
    have s4 := Fr.set (p := ⟨g, 4, none⟩) s3 (.inr rfl) (.int .i64 0)
    have t1 : Fr (· = g) wr _ := Fr.set (p := ⟨g, 4, none⟩) (Fr.set (p := ⟨g, 2, none⟩) (Fr.set (p := ⟨g, 5, none⟩) (Fr.set (p := ⟨g, 1, none⟩) (Fr.refl (· = g) wr) rfl (.slice none 0 0)) rfl (.slice none 0 0)) rfl (.bool true)) rfl (.int .i64 0)
    refine ⟨rfl, RE.out.fr t1 (fun k h e => GF.out (e ▸ h)), ?_, s4⟩
    rw [blk_set (blk_set (blk_set (blk_set GE.out 1 _) 5 _) 2 _) 4 _]
    simp
end
end Go.Proofs.Ythnadkdfgckijaa.Pure
namespace Go.Proofs.Ythnadkdfgckijaa.Pure
open Go.RowKit Go.Proofs.Ythnadkdfgckijaa Go.Proofs.Ythnadkdfgckijaa.PAll Go.Proofs.Ythnadkdfgckijaa.Mem Go.Proofs.YthnadkdfgckijaaW.PrintWords Go.Proofs.YthnadkdfgckijaaW.PrintLast Go.Proofs.YthnadkdfgckijaaW.PrintMore
set_option linter.unusedVariables false
set_option linter.unusedSimpArgs false
set_option linter.unusedSectionVars false

theorem penOk_nil (n : Nat) : PenOk n [] := fun x h => by cases h
theorem R_none (w : World) (ok : Nat → Prop) : Kd.R kW 101 w 0 ok (.slice none 0 0) [] := Kd.R_nil _ _ _ _ _
theorem F_none (w : World) (U : Nat → Prop) : Kd.F (Kd.int .u8) w U none ([] : List Int).length [] := Kd.F_nil _ _ _
section
variable {w : World} {g : Nat} {U : Nat → Prop} {s : DS} (h : DK w g U s)
include h
theorem dk_len : Calls Try.prog 32 #[.pointer (some ⟨g, 0, none⟩)] w fun ex w' => ex = .returned (.int .i64 (s.B.length : Int)) ∧ Below w.heap.size w w' := by
  obtain ⟨lt, ug, pen, pos, A, Ak, c, ck, vP, FB, FW, FK, h1, h2, h3, h4, h5, h6, h7, h8⟩ := h
  exact len_b h1
theorem dk_can : Calls Try.prog 57 #[.pointer (some ⟨g, 0, none⟩)] w fun ex w' => ex = .returned (.int .i64 (if s.off = true then 5 else 0)) ∧ Below w.heap.size w w' := by
  obtain ⟨lt, ug, pen, pos, A, Ak, c, ck, vP, FB, FW, FK, h1, h2, h3, h4, h5, h6, h7, h8⟩ := h
  exact can_b h1 pos
theorem dk_place (i : Int) : Calls Try.prog 54 #[.pointer (some ⟨g, 0, none⟩), .int .i64 i] w fun ex w' => ex = .returned (.int .i64 (placeS s i)) ∧ Below w.heap.size w w' := by
  obtain ⟨lt, ug, pen, pos, A, Ak, c, ck, vP, FB, FW, FK, h1, h2, h3, h4, h5, h6, h7, h8⟩ := h
  exact place_b h1 pos i _ rfl
theorem dk_on : Calls Try.prog 31 #[.pointer (some ⟨g, 0, none⟩)] w fun ex w' => ex = .returned (.bool (!s.off)) ∧ Below w.heap.size w w' := by
  obtain ⟨lt, ug, pen, pos, A, Ak, c, ck, vP, FB, FW, FK, h1, h2, h3, h4, h5, h6, h7, h8⟩ := h
  exact on_b h1 pos
theorem dk_restart : Calls Try.prog 30 #[.pointer (some ⟨g, 0, none⟩)] w fun ex w' => ex = .returned (.int .i64 (restartS s).1) ∧ DK w' g U (restartS s).2 ∧ Fr U w w' := by
  obtain ⟨lt, ug, pen, pos, A, Ak, c, ck, vP, FB, FW, FK, h1, h2, h3, h4, h5, h6, h7, h8⟩ := h
  refine (restart_b h1 pos).mono ?_
  rintro ex w' ⟨rfl, hG, hf⟩
  have hd : DK w' g U { s with off := false } := ⟨fun k hk => Nat.lt_of_lt_of_le (lt k hk) hf.size, ug, pen, pos, A, Ak, c, ck, vP, FB, FW, FK, hG, h2.fr hf (fun k hk e => (h6 k hk).2 e), Kd.R_step h3 (fun k hk hlt => hf.block k hlt (h7 k hk).2.1), F_fr h4 hf (fun k hk => (h8 k hk).2.1), h5, h6, h7, h8⟩
  unfold restartS
  cases ho : s.off
  · rw [if_neg (by decide), if_neg (by decide)]
    refine ⟨rfl, ?_, hf.mono (fun k e => e ▸ ug)⟩
    have e : ({ s with off := false } : DS) = s := by cases s; cases ho; rfl
    rw [e] at hd
    exact hd
  · rw [if_pos rfl, if_pos rfl]
    exact ⟨rfl, hd, hf.mono (fun k e => e ▸ ug)⟩
/-- The power goes. -/
theorem dk_falls {UX : Nat → Prop} {ps : List Int} {Ax : Option Addr} {cx : Nat} (hX : Kd.F (Kd.int .u8) w UX Ax ps.length ps) (hcx : ps.length ≤ cx) (hUX : ∀ k, UX k → ¬ U k) :
    Calls Try.prog 62 #[.pointer (some ⟨g, 0, none⟩), .slice Ax ps.length cx] w fun ex w' => ex = .returned (.tuple #[]) ∧ DK w' g U (fallsS s ps) ∧ Fr U w w' := by
  obtain ⟨lt, ug, pen, pos, A, Ak, c, ck, vP, FB, FW, FK, h1, h2, h3, h4, h5, h6, h7, h8⟩ := h
  refine (falls_b h1 h2 h3 pen (fun q => (h6 _ q).2 rfl) (fun k hk => (h7 k hk).2.2) (fun k hk => lt k (h6 k hk).1) hX hcx (fun k hk q => hUX k hk (h6 k q).1)).mono ?_
  rintro ex w' ⟨rfl, hR, hG, hf⟩
  have hf2 : Fr U w w' := hf.mono (fun k hk => hk.elim (fun q => (h6 k q).1) (fun e => e ▸ ug))
  refine ⟨rfl, ⟨fun k hk => Nat.lt_of_lt_of_le (lt k hk) hf.size, ug, penOk_nil _, by simp only [fallsS, fallB_len]; exact pos, A, none, c, 0, .slice none 0 0, FB, fun _ => False, fun _ => False, ?_, hR, R_none _ _, F_none _ _, Nat.le_refl _, h6, fun k q => q.elim, fun k q => q.elim⟩, hf2⟩
  show w'.heap[g]? = some (.cells (dkCs A (fallB s.B (s.P.zip ps)).length c (.slice none 0 0) (.bool true) (.int .i64 s.ops) (.int .i64 0) (.slice none 0 0)) 55 (0, 0))
  rw [fallB_len]
  exact hG
end
section
variable {w : World} {g c ck : Nat} {A Ak : Option Addr} {vP : Value} {v2 : Bool} {ops armed : Int} {FB FW FK : Nat → Prop} {B : List (List Int)} {P : List (Int × List Int)} {ps : List Int}
set_option maxRecDepth 100000 in
theorem goes0_b (hg : w.heap[g]? = some (.cells (dkCs A B.length c vP (.bool v2) (.int .i64 ops) (.int .i64 armed) (.slice Ak ps.length ck)) 55 (0, 0))) (h0 : armed = 0) :
    Calls Try.prog 56 #[.pointer (some ⟨g, 0, none⟩)] w fun ex w' => ex = .returned (.bool false) ∧ w'.heap[g]? = some (.cells (dkCs A B.length c vP (.bool v2) (.int .i64 (wrap64 (ops + 1))) (.int .i64 armed) (.slice Ak ps.length ck)) 55 (0, 0)) ∧ Fr (· = g) w w' := by
  subst h0
  have G0 := Aside0.mk hg
  have y3 := blk_frozen hg 3
  obtain ⟨z0, z1, z2, z3, z4, z5⟩ := dk_cells hg
  clear hg
  go_enter Try.func56, Try.ntmps56
  go_wp2_with fail
  go_ret
  refine ⟨rfl, ?_, Fr.set (F := (· = g)) (p := ⟨g, 3, none⟩) (Fr.refl _ _) rfl _⟩
  rw [blk_set G0.out 3 _]
  simp
set_option maxRecDepth 100000 in
theorem goes1_b (hg : w.heap[g]? = some (.cells (dkCs A B.length c vP (.bool v2) (.int .i64 ops) (.int .i64 armed) (.slice Ak ps.length ck)) 55 (0, 0))) (h0 : ¬ armed = 0) (h1 : wrap64 (armed - 1) > 0) :
    Calls Try.prog 56 #[.pointer (some ⟨g, 0, none⟩)] w fun ex w' => ex = .returned (.bool false) ∧ w'.heap[g]? = some (.cells (dkCs A B.length c vP (.bool v2) (.int .i64 (wrap64 (ops + 1))) (.int .i64 (wrap64 (armed - 1))) (.slice Ak ps.length ck)) 55 (0, 0)) ∧ Fr (· = g) w w' := by
  have G0 := Aside0.mk hg
  have e0 : (armed == 0) = false := by simpa using h0
  obtain ⟨a1, ha1⟩ : ∃ x, x = wrap64 (armed - 1) := ⟨_, rfl⟩
  rw [← ha1] at h1 ⊢
  have e1 := ha1.symm
  have e2 : decide (a1 > 0) = true := decide_eq_true h1
  have e3 : decide (0 < a1) = true := decide_eq_true h1
  have y3 := blk_frozen hg 3
  have y4 := blk_frozen hg 4
  obtain ⟨z0, z1, z2, z3, z4, z5⟩ := dk_cells hg
  clear hg h0 h1 ha1
  go_enter Try.func56, Try.ntmps56
  go_wp2_with fail
  go_ret
  refine ⟨rfl, ?_, Fr.set (F := (· = g)) (p := ⟨g, 4, none⟩) (Fr.set (F := (· = g)) (p := ⟨g, 3, none⟩) (Fr.refl _ _) rfl _) rfl _⟩
  rw [blk_set (blk_set G0.out 3 _) 4 _]
  simp
set_option maxRecDepth 100000 in
set_option maxHeartbeats 4000000 in
theorem goes2_b (hg : w.heap[g]? = some (.cells (dkCs A B.length c vP (.bool v2) (.int .i64 ops) (.int .i64 armed) (.slice Ak ps.length ck)) 55 (0, 0))) (h0 : ¬ armed = 0) (h1 : ¬ wrap64 (armed - 1) > 0)
    (hR : RowsAt w A c FB B) (hP : Kd.R kW 101 w 0 FW vP P) (hpen : PenOk B.length P) (hgF : ¬ FB g) (hgW : ¬ FW g) (hgK : ¬ FK g) (hWF : ∀ k, FW k → ¬ FB k) (hFB : ∀ k, FB k → k < w.heap.size)
    (hK : Kd.F (Kd.int .u8) w FK Ak ps.length ps) (hck : ps.length ≤ ck) (hKF : ∀ k, FK k → ¬ FB k) :
    Calls Try.prog 56 #[.pointer (some ⟨g, 0, none⟩)] w fun ex w' => ex = .returned (.bool true) ∧ RowsAt w' A c FB (fallB B (P.zip ps)) ∧ w'.heap[g]? = some (.cells (dkCs A B.length c (.slice none 0 0) (.bool true) (.int .i64 (wrap64 (ops + 1))) (.int .i64 0) (.slice none 0 0)) 55 (0, 0)) ∧ Fr (fun k => FB k ∨ k = g) w w' := by
  obtain ⟨o1, ho1⟩ : ∃ x, x = wrap64 (ops + 1) := ⟨_, rfl⟩
  rw [← ho1]
  obtain ⟨a1, ha1⟩ : ∃ x, x = wrap64 (armed - 1) := ⟨_, rfl⟩
  rw [← ha1] at h1
  have e1 := ha1.symm
  have e5 := ho1.symm
  have e0 : (armed == 0) = false := by simpa using h0
  have e2 : decide (a1 > 0) = false := decide_eq_false h1
  have e3 : decide (0 < a1) = false := decide_eq_false h1
  obtain ⟨w1, hw1⟩ : ∃ x, x = (w.setCell ⟨g, 3, none⟩ (.int .i64 o1)).setCell ⟨g, 4, none⟩ (.int .i64 a1) := ⟨_, rfl⟩
  have F1 := Fr.set (F := (· = g)) (p := ⟨g, 4, none⟩) (Fr.set (F := (· = g)) (p := ⟨g, 3, none⟩) (Fr.refl (· = g) w) rfl (.int .i64 o1)) rfl (.int .i64 a1)
  have G1 : ((w.setCell ⟨g, 3, none⟩ (.int .i64 o1)).setCell ⟨g, 4, none⟩ (.int .i64 a1)).heap[g]? = some (.cells (dkCs A B.length c vP (.bool v2) (.int .i64 o1) (.int .i64 a1) (.slice Ak ps.length ck)) 55 (0, 0)) := by
    rw [blk_set (blk_set hg 3 _) 4 _]
    simp
  rw [← hw1] at F1 G1
  have FF := Aside0.mk (falls_b G1 (hR.fr F1 (fun k hk e => hgF (e ▸ hk))) (Kd.R_step hP (fun k hk hlt => F1.block k hlt (fun e => hgW (e ▸ hk)))) hpen hgF hWF (fun k hk => Nat.lt_of_lt_of_le (hFB k hk) F1.size) (F_fr hK F1 (fun k hk e => hgK (e ▸ hk))) hck hKF)
  have F1A := Aside0.mk F1
  have y3 := blk_frozen hg 3
  have y4 := blk_frozen hg 4
  obtain ⟨z0, z1, z2, z3, z4, z5⟩ := dk_cells hg
  have W1 := Aside0.mk hw1
  clear hg h0 h1 ha1 ho1 F1 G1 hR hP hpen hgF hgW hgK hWF hFB hK hck hKF hw1
  go_enter Try.func56, Try.ntmps56
  go_wp2_with fail
  rw [← W1.out]
  refine FF.out.mono ?_
  rintro ex w2 ⟨rfl, hR, hG, hf⟩
  have R2 := Aside0.mk hR
  have G2 := Aside0.mk hG
  have F2 := Aside0.mk ((F1A.out.mono (F' := fun k => FB k ∨ k = g) (fun k e => .inr e)).then_ hf)
  clear hR hG hf z0 z1 z2 z3 z4 z5 y3 y4
  go_wp2_with fail
  go_ret
  exact ⟨rfl, R2.out, G2.out, F2.out⟩
end
theorem dk_goes {w : World} {g : Nat} {U : Nat → Prop} {s : DS} (h : DK w g U s) : Calls Try.prog 56 #[.pointer (some ⟨g, 0, none⟩)] w fun ex w' => ex = .returned (.bool (goesS s).1) ∧ DK w' g U (goesS s).2 ∧ Fr U w w' := by
  obtain ⟨lt, ug, pen, pos, A, Ak, c, ck, vP, FB, FW, FK, h1, h2, h3, h4, h5, h6, h7, h8⟩ := h
  unfold goesS
  by_cases h0 : s.armed = 0
  · rw [if_pos h0]
    refine (goes0_b h1 h0).mono ?_
    rintro ex w' ⟨rfl, hG, hf⟩
    exact ⟨rfl, ⟨fun k hk => Nat.lt_of_lt_of_le (lt k hk) hf.size, ug, pen, pos, A, Ak, c, ck, vP, FB, FW, FK, hG, h2.fr hf (fun k hk e => (h6 k hk).2 e), Kd.R_step h3 (fun k hk hlt => hf.block k hlt (h7 k hk).2.1), F_fr h4 hf (fun k hk => (h8 k hk).2.1), h5, h6, h7, h8⟩, hf.mono (fun k e => e ▸ ug)⟩
  · rw [if_neg h0]
    by_cases hq : wrap64 (s.armed - 1) > 0
    · rw [if_pos hq]
      refine (goes1_b h1 h0 hq).mono ?_
      rintro ex w' ⟨rfl, hG, hf⟩
      exact ⟨rfl, ⟨fun k hk => Nat.lt_of_lt_of_le (lt k hk) hf.size, ug, pen, pos, A, Ak, c, ck, vP, FB, FW, FK, hG, h2.fr hf (fun k hk e => (h6 k hk).2 e), Kd.R_step h3 (fun k hk hlt => hf.block k hlt (h7 k hk).2.1), F_fr h4 hf (fun k hk => (h8 k hk).2.1), h5, h6, h7, h8⟩, hf.mono (fun k e => e ▸ ug)⟩
    · rw [if_neg hq]
      refine (goes2_b h1 h0 hq h2 h3 pen (fun q => (h6 _ q).2 rfl) (fun q => (h7 _ q).2.1 rfl) (fun q => (h8 _ q).2.1 rfl) (fun k hk => (h7 k hk).2.2) (fun k hk => lt k (h6 k hk).1) h4 h5 (fun k hk => (h8 k hk).2.2.1)).mono ?_
      rintro ex w' ⟨rfl, hR, hG, hf⟩
      refine ⟨rfl, ⟨fun k hk => Nat.lt_of_lt_of_le (lt k hk) hf.size, ug, penOk_nil _, by simp only [fallsS, fallB_len]; exact pos, A, none, c, 0, .slice none 0 0, FB, fun _ => False, fun _ => False, ?_, hR, R_none _ _, F_none _ _, Nat.le_refl _, h6, fun k q => q.elim, fun k q => q.elim⟩, hf.mono (fun k hk => hk.elim (fun q => (h6 k q).1) (fun e => e ▸ ug))⟩
      show w'.heap[g]? = some (.cells (dkCs A (fallB s.B (s.P.zip s.picks)).length c (.slice none 0 0) (.bool true) (.int .i64 (wrap64 (s.ops + 1))) (.int .i64 0) (.slice none 0 0)) 55 (0, 0))
      rw [fallB_len]
      exact hG
set_option maxRecDepth 100000 in
theorem dk_crash {w : World} {g : Nat} {U UX : Nat → Prop} {s : DS} {ps : List Int} {Ax : Option Addr} {cx : Nat} (h : DK w g U s) (hX : Kd.F (Kd.int .u8) w UX Ax ps.length ps) (hcx : ps.length ≤ cx) (hUX : ∀ k, UX k → ¬ U k) :
    Calls Try.prog 23 #[.pointer (some ⟨g, 0, none⟩), .slice Ax ps.length cx] w fun ex w' => ex = .returned (.int .i64 (crashS s ps).1) ∧ DK w' g U (crashS s ps).2 ∧ Fr U w w' := by
  have D0 := Aside0.mk h
  have X0 := Aside0.mk hX
  have UX0 := Aside0.mk hUX
  have HC := Aside0.mk hcx
  unfold crashS
  clear h hX hUX hcx
  by_cases ho : s.off = true
  · rw [if_pos ho]
    have hcan : (if s.off = true then (5 : Int) else 0) = 5 := if_pos ho
    have HO := Aside0.mk hcan
    clear hcan ho
    go_enter Try.func23, Try.ntmps23
    go_wp2_with fail
    refine (dk_can D0.out).mono ?_
    rintro ex w1 ⟨rfl, hb⟩
    rw [HO.out]
    have D1 := Aside0.mk (D0.out.below hb)
    have F1 := Aside0.mk (Fr.of_below (F := U) hb)
    clear hb
    go_wp2_with fail
    go_ret
    exact ⟨rfl, D1.out, F1.out⟩
  · rw [if_neg ho]
    have hcan : (if s.off = true then (5 : Int) else 0) = 0 := if_neg ho
    have HO := Aside0.mk hcan
    clear hcan ho
    go_enter Try.func23, Try.ntmps23
    go_wp2_with fail
    refine (dk_can D0.out).mono ?_
    rintro ex w1 ⟨rfl, hb⟩
    rw [HO.out]
    have D1 := Aside0.mk (D0.out.below hb)
    have X1 := Aside0.mk (Kd.F_below X0.out hb)
    have F1 := Aside0.mk (Fr.of_below (F := U) hb)
    clear hb
    go_wp2_with fail
    refine (dk_falls D1.out X1.out HC.out UX0.out).mono ?_
    rintro ex w2 ⟨rfl, hD, hf⟩
    have D2 := Aside0.mk hD
    have F2 := Aside0.mk (F1.out.then_ hf)
    clear hD hf
    go_wp2_with fail
    go_ret
    exact ⟨rfl, D2.out, F2.out⟩
end Go.Proofs.Ythnadkdfgckijaa.Pure
namespace Go.Proofs.Ythnadkdfgckijaa.Pure
open Go.RowKit Go.Proofs.Ythnadkdfgckijaa Go.Proofs.Ythnadkdfgckijaa.PAll Go.Proofs.Ythnadkdfgckijaa.Mem Go.Proofs.YthnadkdfgckijaaW.PrintWords Go.Proofs.YthnadkdfgckijaaW.PrintLast Go.Proofs.YthnadkdfgckijaaW.PrintMore
set_option linter.unusedVariables false
set_option linter.unusedSimpArgs false
set_option linter.unusedSectionVars false

set_option maxRecDepth 100000 in
set_option maxHeartbeats 16000000 in
theorem dk_flush {w : World} {g : Nat} {U : Nat → Prop} {s : DS} (h : DK w g U s) :
    Calls Try.prog 18 #[.pointer (some ⟨g, 0, none⟩)] w fun ex w' => ex = .returned (.int .i64 (flushS s).1) ∧ DK w' g U (flushS s).2 ∧ Fr U w w' := by
  have D0 := Aside0.mk h
  obtain ⟨r, hr⟩ : ∃ r, r = flushS s := ⟨_, rfl⟩
  rw [← hr]
  unfold flushS at hr
  clear h
  by_cases ho : s.off = true
  · rw [if_pos ho] at hr
    have hcan : (if s.off = true then (5 : Int) else 0) = 5 := if_pos ho
    have HO := Aside0.mk hcan
    subst hr
    clear hcan ho
    go_enter Try.func18, Try.ntmps18
    go_wp2_with fail
    refine (dk_can D0.out).mono ?_
    rintro ex w1 ⟨rfl, hb⟩
    rw [HO.out]
    have D1 := Aside0.mk (D0.out.below hb)
    have F1 := Aside0.mk (Fr.of_below (F := U) hb)
    clear hb
    go_wp2_with fail
    go_ret
    exact ⟨rfl, D1.out, F1.out⟩
  · rw [if_neg ho] at hr
    have hcan : (if s.off = true then (5 : Int) else 0) = 0 := if_neg ho
    have HO := Aside0.mk hcan
    obtain ⟨⟨b, s2⟩, hgs⟩ : ∃ x, x = goesS s := ⟨_, rfl⟩
    have QG := Aside0.mk (fun (w' : World) (h : DK w' g U s) => dk_goes h)
    rw [← hgs] at hr QG
    simp only at hr QG
    clear hcan ho hgs
    go_enter Try.func18, Try.ntmps18
    go_wp2_with fail
    refine (dk_can D0.out).mono ?_
    rintro ex w1 ⟨rfl, hb⟩
    rw [HO.out]
    have D1 := Aside0.mk (D0.out.below hb)
    have F1 := Aside0.mk (Fr.of_below (F := U) hb)
    have HR := Aside0.mk hr
    clear hb hr
    go_wp2_with fail
    refine (QG.out _ D1.out).mono ?_
    rintro ex w2 ⟨rfl, hD, hf⟩
    have D2 := Aside0.mk hD
    have F2 := Aside0.mk (F1.out.then_ hf)
    have hr := HR.out
    clear hD hf D1 F1 D0 QG HR
    cases b
    case true =>
      rw [if_pos rfl] at hr
      subst hr
      go_wp2_with fail
      go_ret
      exact ⟨rfl, D2.out, F2.out⟩
    case false =>
      rw [if_neg (by decide)] at hr
      subst hr
      obtain ⟨lt, ug, pen, pos, A, Ak, c, ck, vP, FB, FW, FK, h1, h2, h3, h4, h5, h6, h7, h8⟩ := D2.out
      obtain ⟨B, P, off, ops, armed, ps⟩ := s2
      simp only at pen pos h1 h2 h3 h4 h5 h6 h7 h8
      obtain ⟨AP, cP, rfl, hcP, hPF⟩ := R_own h3
      have G0 := Aside0.mk h1
      have R0 := Aside0.mk (show RowsAt w2 A c FB (flushB B (P.take 0)) from h2)
      have PF := Aside0.mk hPF
      have PN := Aside0.mk pen
      have GF := Aside0.mk (show ¬ FB g from fun q => (h6 _ q).2 rfl)
      have WF := Aside0.mk (show ∀ k, FW k → ¬ FB k from fun k hk => (h7 k hk).2.2)
      have FS := Aside0.mk (show ∀ k, FB k → k < w2.heap.size from fun k hk => lt k (h6 k hk).1)
      have HL := Aside0.mk (Kd.F_max hPF)
      have REST := Aside0.mk (And.intro lt (And.intro ug (And.intro pos (And.intro h4 (And.intro h5 (And.intro h6 (And.intro h7 h8)))))))
      obtain ⟨z0, z1, z2, z3, z4, z5⟩ := dk_cells h1
      clear lt ug pen pos h1 h2 h3 h4 h5 h6 h7 h8 hPF D2
      go_wp2_with fail
      clear z0 z1 z2 z3 z4 z5
      go_loopg [18] P.length (fun q v18 w' => ∃ (k : Nat), v18 = .int .i64 (k : Int) ∧ Aside0 (k + q = P.length) ∧ Aside0 (RowsAt w' A c FB (flushB B (P.take k))) ∧ Aside0 (Fr FB w2 w'))
      case atStart => exact ⟨0, rfl, ⟨Nat.zero_add _⟩, R0, ⟨Fr.refl _ _⟩⟩
      case round =>
        clear R0
        obtain ⟨k, rfl, HJ, RR, FF⟩ := hrel
        by_cases hlt : k < P.length
        case pos =>
          have hgd := (di_t hlt).1
          have hgd2 := (di_t hlt).2
          have HN := Aside0.mk (st_n HJ.out hlt).1
          have HM := Aside0.mk (st_n HJ.out hlt).2
          have HV := Aside0.mk (stepv hlt HL.out)
          obtain ⟨ad, Ab, cb, hAP, q0, q1, hcb, hbF⟩ := pen_at (F_fr PF.out FF.out WF.out) hlt
          obtain ⟨I, b, hPk, hI, hb, hby⟩ := pen_get PN.out hlt
          rw [hPk] at q0 q1 hcb hbF
          simp only at q0 q1 hcb hbF
          rw [hb] at q1 hcb hbF
          cases hAP
          have NX := Aside0.mk (flushB_next B P k hlt)
          rw [hPk] at NX
          have BI := Aside0.mk (And.intro hI (And.intro hb (And.intro hby hcb)))
          have BF := Aside0.mk hbF
          have GS := Aside0.mk FF.out.size
          clear hPk hI hb hby hcb hbF HJ
          go_upto_region 9 with fail
          clear q0 q1
          have hbn := (Below.refl wr.heap.size wr).alloc (Nat.le_refl _) (.cells #[.int .i64 (I : Int), .slice Ab 256 cb] 101)
          have N5 := Aside0.mk (heap_new wr (.cells #[.int .i64 (I : Int), .slice Ab 256 cb] 101))
          replace RR := Aside0.mk (RR.out.below hbn)
          replace FF := Aside0.mk (FF.out.then_ (Fr.of_below hbn))
          replace BF := Aside0.mk (Kd.F_below BF.out hbn)
          obtain ⟨w5, hw5⟩ : ∃ x, x = wr.alloc (.cells #[.int .i64 (I : Int), .slice Ab 256 cb] 101) := ⟨_, rfl⟩
          rw [← hw5] at N5 RR FF BF ⊢
          clear hw5 hbn GS
          obtain ⟨g5, hg5⟩ : ∃ x, x = wr.heap.size := ⟨_, rfl⟩
          rw [← hg5] at N5 ⊢
          clear hg5
          obtain ⟨y0, y1⟩ := two_cells N5.out
          have GG := Aside0.mk (fr_blk FF.out G0.out GF.out)
          have FS5 := Aside0.mk (show ∀ q, FB q → q < w5.heap.size from fun q hq => Nat.lt_of_lt_of_le (FS.out q hq) FF.out.size)
          have RC := Aside0.mk (reach_c (A := A) (c := c) (FB := FB) (UX := FW) (B := flushB B (P.take k)) (by rw [flushB_len]; exact GG.out) RR.out GF.out (I := I) (by rw [flushB_len]; exact BI.out.1) BI.out.2.1 BI.out.2.2.1 BF.out BI.out.2.2.2 WF.out FS5.out 15)
          rw [← NX.out] at RC
          go_wp2_with fail
          clear y0 y1
          refine RC.out.mono ?_
          rintro e wn ⟨rfl, hR, hf⟩
          have RN := Aside0.mk hR
          have FN := Aside0.mk (FF.out.then_ hf)
          clear hR hf RC
          go_wp2_with fail
          go_roundg (gk - 1)
          case measure => exact HM.out
          case rel => exact ⟨k + 1, HV.out, HN, RN, FN⟩
        have hke : k = P.length := en_k HJ.out hlt
        have hge := (di_f hke).1
        have hge2 := (di_f hke).2
        have RE := Aside0.mk (show RowsAt wr A c FB (flushB B P) from by
          have h := RR.out
          rw [List.take_of_length_le (by omega)] at h
          exact h)
        have GE := Aside0.mk (fr_blk FF.out G0.out GF.out)
        have y1 := blk_frozen GE.out 1
        clear hlt hke RR HJ
        obtain ⟨z0, z1, z2, z3, z4, z5⟩ := dk_cells GE.out
        go_wp2_with fail
        go_ret
        obtain ⟨lt, ug, pos, h4, h5, h6, h7, h8⟩ := REST.out
        have t1 : Fr (· = g) wr _ := Fr.set (p := ⟨g, 1, none⟩) (Fr.refl (· = g) wr) rfl (.slice none 0 0)
        have f1 : Fr U w2 wr := FF.out.mono (fun k q => (h6 k q).1)
        have f2 : Fr U w2 _ := Fr.set (p := ⟨g, 1, none⟩) f1 ug (.slice none 0 0)
        refine ⟨rfl, ⟨fun k hk => Nat.lt_of_lt_of_le (lt k hk) f2.size, ug, penOk_nil _, by simp only [flushB_len]; exact pos, A, Ak, c, ck, .slice none 0 0, FB, fun _ => False, FK, ?_, RE.out.fr t1 (fun k q e => GF.out (e ▸ q)), R_none _ _, F_fr (F_fr h4 FF.out (fun k q => (h8 k q).2.2.1)) t1 (fun k q => (h8 k q).2.1), h5, h6, fun k q => q.elim, fun k q => ⟨(h8 k q).1, (h8 k q).2.1, (h8 k q).2.2.1, fun z => z⟩⟩, F2.out.then_ f2⟩
        show (World.setCell wr _ _).heap[g]? = some (.cells (dkCs A (flushB B P).length c (.slice none 0 0) (.bool off) (.int .i64 ops) (.int .i64 armed) (.slice Ak ps.length ck)) 55 (0, 0))
        rw [flushB_len, blk_set GE.out 1 _]
        simp
end Go.Proofs.Ythnadkdfgckijaa.Pure
namespace Go.Proofs.Ythnadkdfgckijaa.Pure
open Go.RowKit Go.Proofs.Ythnadkdfgckijaa Go.Proofs.Ythnadkdfgckijaa.PAll Go.Proofs.Ythnadkdfgckijaa.Mem Go.Proofs.YthnadkdfgckijaaW.PrintWords Go.Proofs.YthnadkdfgckijaaW.PrintLast Go.Proofs.YthnadkdfgckijaaW.PrintMore
set_option linter.unusedVariables false
set_option linter.unusedSimpArgs false
set_option linter.unusedSectionVars false

theorem info101 : (Try.prog.info? 101).map (fun i => (i.zero, i.size, i.bytes)) = some (some (.agg #[.int .i64 0, .slice none 0 0]), kW.sz, 32) := by kernel_rfl
theorem clone_r {w : World} {A : Option Addr} {c n : Nat} {l : List Int} (hC : Kd.C (Kd.int .u8) w A l.length l) (hn : l.length = n) (hc : n ≤ c) (hl : n ≤ 140737488351232) :
    Calls Try.prog 55 #[.slice A n c] w fun e w' => ∃ Y d, e = .returned (.slice Y n d) ∧ n ≤ d ∧ Kd.R (Kd.int .u8) 5 w' 0 (fun k => w.heap.size ≤ k ∧ k < w'.heap.size) (.slice Y n d) l ∧ Below w.heap.size w w' := by
  subst hn
  refine (bytes_Clone.calls A c l l w hC hc (by unfold bytes_Clone.f; rw [if_pos (by omega)])).mono ?_
  rintro e w' ⟨v, rfl, ho, hb⟩
  obtain ⟨Y, d, rfl, hd, hF⟩ := R_own ho
  exact ⟨Y, d, rfl, hd, Kd.R_lower (Kd.R_mono (Kd.R_bound ho) (fun k hk => ⟨hk.2.1, hk.2.2.1⟩)) (Nat.zero_le _), hb⟩
theorem below0 (w : World) : Below 0 w w := (Below.refl w.heap.size w).mono (Nat.zero_le _)
theorem placeS_ok {s : DS} {i : Int} (h : placeS s i = 0) : s.off = false ∧ 0 ≤ i ∧ i < (s.B.length : Int) := by
  unfold placeS at h
  by_cases ho : s.off = true
  · rw [if_pos ho] at h; cases h
  · rw [if_neg ho] at h
    by_cases hi : i < 0 ∨ i ≥ (s.B.length : Int)
    · rw [if_pos hi] at h; cases h
    · exact ⟨by simpa using ho, by omega, by omega⟩
section
variable {w : World} {g : Nat} {U UX : Nat → Prop} {s : DS} {Ax : Option Addr} {cx : Nat} {b : List Int}
set_option maxRecDepth 100000 in
theorem write1 (h : DK w g U s) (i r : Int) (n : Nat) (hr : placeS s i = r) (h0 : r ≠ 0) : Calls Try.prog 16 #[.pointer (some ⟨g, 0, none⟩), .int .i64 i, .slice Ax n cx] w fun ex w' => ex = .returned (.int .i64 r) ∧ Below w.heap.size w w' := by
  have D0 := Aside0.mk h
  have HR := Aside0.mk hr
  have e1 : (r == 0) = false := by simpa using h0
  have e2 : (r != 0) = true := by simpa using h0
  clear h hr h0
  go_enter Try.func16, Try.ntmps16
  go_wp2_with fail
  refine (dk_place D0.out i).mono ?_
  rintro ex w1 ⟨rfl, hb⟩
  rw [HR.out]
  have K1 := Aside0.mk hb
  clear hb
  go_wp2_with fail
  go_ret
  exact ⟨rfl, K1.out⟩
set_option maxRecDepth 100000 in
theorem write2 (h : DK w g U s) (i : Int) (n : Nat) (hr : placeS s i = 0) (hn : n ≠ 256) : Calls Try.prog 16 #[.pointer (some ⟨g, 0, none⟩), .int .i64 i, .slice Ax n cx] w fun ex w' => ex = .returned (.int .i64 31) ∧ Below w.heap.size w w' := by
  have D0 := Aside0.mk h
  have HR := Aside0.mk hr
  have e1 : ((n : Int) == 256) = false := by simp; omega
  have e2 : ((n : Int) != 256) = true := by simp; omega
  have e3 : (n == 256) = false := by simpa using hn
  have e4 : (n != 256) = true := by simpa using hn
  clear h hr hn
  go_enter Try.func16, Try.ntmps16
  go_wp2_with fail
  refine (dk_place D0.out i).mono ?_
  rintro ex w1 ⟨rfl, hb⟩
  rw [HR.out]
  have K1 := Aside0.mk hb
  clear hb
  go_wp2_with fail
  go_ret
  exact ⟨rfl, K1.out⟩
theorem pen_make2 {w : World} {base : Nat} {ok : Nat → Prop} {i : Int} {v : Value} {b : List Int} (h : Kd.R (Kd.int .u8) 5 w base ok v b) : kW.M w base ok (i, b) [.int .i64 i, v] :=
  ⟨[.int .i64 i], [v], rfl, rfl, _, rfl, h⟩
/-- What is known behind the append. -/
theorem wrote_dk {w1 wn w3 : World} {g : Nat} {U : Nat → Prop} {s : DS} {A Ak : Option Addr} {c ck : Nat} {vP v3 : Value} {FB FW FK : Nat → Prop} {x : Int × List Int} (lt : ∀ k, U k → k < w1.heap.size) (ug : U g) (pen : PenOk s.B.length s.P) (pos : 0 < s.B.length)
    (h1 : w1.heap[g]? = some (.cells (dkCs A s.B.length c vP (.bool s.off) (.int .i64 s.ops) (.int .i64 s.armed) (.slice Ak s.picks.length ck)) 55 (0, 0))) (h2 : RowsAt w1 A c FB s.B) (hP0 : ∀ k, vP.ownBlock = some k → FW k) (h4 : Kd.F (Kd.int .u8) w1 FK Ak s.picks.length s.picks) (h5 : s.picks.length ≤ ck)
    (h6 : ∀ k, FB k → U k ∧ k ≠ g) (h7 : ∀ k, FW k → U k ∧ k ≠ g ∧ ¬ FB k) (h8 : ∀ k, FK k → U k ∧ k ≠ g ∧ ¬ FB k ∧ ¬ FW k) (hbn : Below w1.heap.size w1 wn) (hg3 : wn.grownBy w3 vP.ownBlock) (hx : 0 ≤ x.1 ∧ x.1 < (s.B.length : Int) ∧ x.2.length = 256 ∧ Bytes x.2)
    (hR3 : Kd.R kW 101 w3 0 (fun k => FW k ∨ w1.heap.size ≤ k) v3 (s.P ++ [x])) :
    w3.heap[g]? = some (.cells (dkCs A s.B.length c vP (.bool s.off) (.int .i64 s.ops) (.int .i64 s.armed) (.slice Ak s.picks.length ck)) 55 (0, 0)) ∧ Fr U w1 (w3.setCell ⟨g, 1, none⟩ v3) ∧ DK (w3.setCell ⟨g, 1, none⟩ v3) g (fun k => U k ∨ w1.heap.size ≤ k ∧ k < w3.heap.size) { s with P := s.P ++ [x] } := by
  have f3 : Fr FW w1 w3 := ⟨hg3.os.trans hbn.os, hg3.tape.trans hbn.tape, hg3.output.trans hbn.output, Nat.le_trans hbn.size hg3.size, fun k hk hn => (hg3.block k (Nat.lt_of_lt_of_le hk hbn.size) (fun e => hn (hP0 k e.symm))).trans (hbn.block k hk)⟩
  have g3 := fr_blk f3 h1 (fun q => (h7 _ q).2.1 rfl)
  have t := Fr.set (p := ⟨g, 1, none⟩) (Fr.refl (· = g) w3) rfl v3
  have hs : (w3.setCell ⟨g, 1, none⟩ v3).heap.size = w3.heap.size := by simp [World.setCell]
  have f4 : Fr U w1 (w3.setCell ⟨g, 1, none⟩ v3) := Fr.set (p := ⟨g, 1, none⟩) (f3.mono (fun k q => (h7 k q).1)) ug v3
  refine ⟨g3, f4, ⟨fun k hk => ?_, .inl ug, fun y hy => ?_, pos, A, Ak, c, ck, v3, FB, fun k => (FW k ∨ w1.heap.size ≤ k) ∧ k < w3.heap.size, FK, ?_, (h2.fr f3 (fun k q z => (h7 k z).2.2 q)).fr t (fun k q e => (h6 k q).2 e), ?_, F_fr (F_fr h4 f3 (fun k q => (h8 k q).2.2.2)) t (fun k q => (h8 k q).2.1), h5, fun k q => ⟨.inl (h6 k q).1, (h6 k q).2⟩, fun k q => ?_, fun k q => ⟨.inl (h8 k q).1, (h8 k q).2.1, (h8 k q).2.2.1, fun z => ?_⟩⟩⟩
  · rw [hs]
    rcases hk with q | q
    · exact Nat.lt_of_lt_of_le (lt k q) f3.size
    · exact q.2
  · rcases List.mem_append.1 hy with q | q
    · exact pen y q
    · rw [List.mem_singleton] at q
      rw [q]
      exact hx
  · rw [blk_set g3 1 _]
    simp
  · refine Kd.R_step (Kd.R_mono (Kd.R_bound hR3) (fun k q => ⟨q.1, q.2.2.1⟩)) (fun k q hlt => t.block k hlt (fun e => ?_))
    rcases q.1 with z | z
    · exact (h7 k z).2.1 e
    · have := blk_lt h1
      omega
  · rcases q.1 with z | z
    · exact ⟨.inl (h7 k z).1, (h7 k z).2⟩
    · refine ⟨.inr ⟨z, q.2⟩, ?_, fun y => ?_⟩
      · have := blk_lt h1
        omega
      · have := lt k (h6 k y).1
        omega
  · rcases z.1 with y | y
    · exact (h8 k q).2.2.2 y
    · have := lt k (h8 k q).1
      omega
set_option maxRecDepth 100000 in
set_option maxHeartbeats 16000000 in
theorem write3 (h : DK w g U s) (i r : Int) (hr : placeS s i = 0) (hb : b.length = 256) (hby : Bytes b) (hX : Kd.F (Kd.int .u8) w UX Ax 256 b) (hcx : 256 ≤ cx) (hUX : ∀ k, UX k → ¬ U k) (hPl : s.P.length ≤ 1000000) (s2 : DS) (hs2 : s2 = (goesS { s with P := s.P ++ [(i, b)] }).2) (hr2 : r = if (goesS { s with P := s.P ++ [(i, b)] }).1 = true then 5 else 0) :
    Calls Try.prog 16 #[.pointer (some ⟨g, 0, none⟩), .int .i64 i, .slice Ax 256 cx] w fun ex w' => ex = .returned (.int .i64 r) ∧ Does w w' g U s2 := by
  have D0 := Aside0.mk h
  have HR := Aside0.mk hr
  have XF := Aside0.mk hX
  have HB := Aside0.mk (And.intro hb (And.intro hby hcx))
  have UXA := Aside0.mk hUX
  have PL := Aside0.mk hPl
  have S2 := Aside0.mk hs2
  have R2 := Aside0.mk hr2
  clear h hr hX hb hby hcx hUX hPl hs2 hr2
  go_enter Try.func16, Try.ntmps16
  go_wp2_with fail
  refine (dk_place D0.out i).mono ?_
  rintro ex w1 ⟨rfl, hb⟩
  rw [HR.out]
  have F1 := Aside0.mk (Fr.of_below (F := U) hb)
  have D1 := Aside0.mk (D0.out.below hb)
  have X1 := Aside0.mk (Kd.F_below XF.out hb)
  have S1 := Aside0.mk hb.size
  clear hb D0 XF
  go_upto_region 6 with fail
  obtain ⟨lt, ug, pen, pos, A, Ak, c, ck, vP, FB, FW, FK, h1, h2, h3, h4, h5, h6, h7, h8⟩ := D1.out
  obtain ⟨AP, cP, hvP, hcP, hPF⟩ := R_own h3
  subst hvP
  have hd : Below w1.heap.size w1 w1.drew := below_drew (Below.refl _ _)
  have G2 := Aside0.mk (show w1.drew.heap[g]? = _ from h1)
  have X2 := Aside0.mk (Kd.F_below X1.out hd)
  have P2 := Aside0.mk (Kd.R_step (w1 := w1.drew) h3 (fun _ _ _ => rfl))
  have REST := Aside0.mk (And.intro lt (And.intro ug (And.intro pen (And.intro pos (And.intro h2 (And.intro h4 (And.intro h5 (And.intro h6 (And.intro h7 h8)))))))))
  have y1 := blk_frozen G2.out 1
  obtain ⟨z0, z1, z2, z3, z4, z5⟩ := dk_cells h1
  obtain ⟨q0, q1, q2, q3, q4, q5⟩ := dk_cells G2.out
  clear lt ug pen pos h1 h2 h3 h4 h5 h6 h7 h8 hPF hd
  have XC := Aside0.mk (show Kd.C (Kd.int .u8) w1.drew Ax b.length b from by rw [HB.out.1]; exact Kd.F_now X2.out)
  have FWl := Aside0.mk (show ∀ k, FW k → k < w1.heap.size from fun k q => REST.out.1 k (REST.out.2.2.2.2.2.2.2.2.1 k q).1)
  have IB := Aside0.mk (placeS_ok HR.out)
  go_region_law (first
    | (refine goes_ Try.func55 (by kernel_rfl) rfl #[.slice Ax 256 cx] (by rfl) rfl rfl (by (try simp only [List.map_toArray, List.map_cons, List.map_nil]); first | done | rfl) ?_; refine (clone_r XC.out HB.out.1 HB.out.2.2 (by decide)).mono ?_; rintro e wn ⟨Y, yd, rfl, hyd, hYR, hbn⟩; refine ⟨_, rfl, ?_⟩; have BN := Aside0.mk (show Below w1.heap.size w1 wn from (below_drew (Below.refl w1.heap.size w1)).trans hbn); have YR := Aside0.mk hYR; have GN := Aside0.mk ((hbn.block _ (blk_lt G2.out)).trans G2.out); have PN := Aside0.mk (Kd.R_step P2.out (w1 := wn) (fun k _ hlt => hbn.block k hlt)); have e1 : (wn.alloc (.cells #[.int .i64 i, .slice Y 256 yd] 101)).cell? ⟨g, 1, none⟩ = some (.slice AP s.P.length cP) := (dk_cells (((Below.refl wn.heap.size wn).alloc (Nat.le_refl _) (.cells #[.int .i64 i, .slice Y 256 yd] 101)).block _ (blk_lt GN.out) |>.trans GN.out)).2.1; clear hbn hYR q0 q1 q2 q3 q4 q5 XC; obtain ⟨q0, q1, q2, q3, q4, q5⟩ := dk_cells GN.out)
    | (refine Kd.R_append_step kW (w0 := wn) 0 (by rfl) (.tmp 21) (.tmp 26) 53 101 (.agg #[.int .i64 0, .slice none 0 0]) 32 rfl Try.underlying53 info101 rfl (by decide) (by decide) (.slice AP s.P.length cP) s.P (i, b) [.int .i64 i, .slice Y 256 yd] (fun k => FW k ∨ w1.heap.size ≤ k) (fun k => w1.heap.size ≤ k ∧ k < wn.heap.size) rfl rfl (pen_make2 YR.out) (fun k q => ⟨.inr q.1, fun e => Nat.lt_irrefl _ (Nat.lt_of_lt_of_le (FWl.out _ (P2.out.1 k e.symm)) q.1)⟩) (fun k q => .inr (Nat.le_trans BN.out.size q)) (Kd.R_mono PN.out (fun k q => .inl q)) (below0 wn) (Nat.zero_le _) (by have := PL.out; omega) ?_; intro v3 w3 hR3 hb3 hg3 hat3; obtain ⟨A3, c3, hv3, hc3, hF3⟩ := R_own hR3; subst hv3; clear hc3 hF3; have WD := Aside0.mk (wrote_dk (x := (i, b)) REST.out.1 REST.out.2.1 REST.out.2.2.1 REST.out.2.2.2.1 G2.out REST.out.2.2.2.2.1 P2.out.1 REST.out.2.2.2.2.2.1 REST.out.2.2.2.2.2.2.1 REST.out.2.2.2.2.2.2.2.1 REST.out.2.2.2.2.2.2.2.2.1 REST.out.2.2.2.2.2.2.2.2.2 BN.out hg3 ⟨IB.out.2.1, IB.out.2.2, HB.out.1, HB.out.2.1⟩ hR3); have y1 := blk_frozen WD.out.1 1; clear hR3 hb3 hg3 hat3 e1 q0 q1 q2 q3 q4 q5; obtain ⟨q0, q1, q2, q3, q4, q5⟩ := dk_cells WD.out.1))
  all_goals
    have WE := WD.out.2
    rw [show (s.P ++ [(i, b)]).length = s.P.length + 1 by simp] at WE
    obtain ⟨w4, hw4⟩ : ∃ x, x = w3.setCell ⟨g, 1, none⟩ (.slice A3 (s.P.length + 1) c3) := ⟨_, rfl⟩
    rw [← hw4] at WE ⊢
    have F4 := Aside0.mk WE.1
    have D4 := Aside0.mk WE.2
    have hgo := dk_goes D4.out
    obtain ⟨⟨bb, s3⟩, hgs⟩ : ∃ x, x = goesS { s with P := s.P ++ [(i, b)] } := ⟨_, rfl⟩
    have e2 := S2.out
    have e3 := R2.out
    rw [← hgs] at e2 e3 hgo
    simp only at e2 e3 hgo
    have QG := Aside0.mk hgo
    have EE := Aside0.mk (And.intro e2 e3)
    clear WE hw4 hgs e2 e3 hgo WD q0 q1 q2 q3 q4 q5 z0 z1 z2 z3 z4 z5 y1
    go_wp2_with fail
    refine QG.out.mono ?_
    rintro ex w5 ⟨rfl, hD, hf⟩
    have DF := Aside0.mk (show Does w w5 g U s3 from ⟨(F1.out.then_ F4.out).trans hf (fun k q => q.elim .inl (fun z => .inr (Nat.le_trans S1.out z.1))), _, hD, fun k q => q.elim .inl (fun z => .inr (Nat.le_trans S1.out z.1))⟩)
    obtain ⟨e2, e3⟩ := EE.out
    clear hD hf QG EE D4 F4
    subst e2
    cases bb
    · rw [if_neg (by decide)] at e3
      subst e3
      go_wp2_with fail
      go_ret
      exact ⟨rfl, DF.out⟩
    · rw [if_pos rfl] at e3
      subst e3
      go_wp2_with fail
      go_ret
      exact ⟨rfl, DF.out⟩
end
theorem dk_write {w : World} {g : Nat} {U UX : Nat → Prop} {s : DS} {Ax : Option Addr} {cx n : Nat} {b : List Int} (h : DK w g U s) (i : Int) (hn : b.length = n) (hby : Bytes b) (hX : Kd.F (Kd.int .u8) w UX Ax n b) (hcx : n ≤ cx) (hUX : ∀ k, UX k → ¬ U k) (hPl : s.P.length ≤ 1000000) :
    Calls Try.prog 16 #[.pointer (some ⟨g, 0, none⟩), .int .i64 i, .slice Ax n cx] w fun ex w' => ex = .returned (.int .i64 (writeS s i b).1) ∧ Does w w' g U (writeS s i b).2 := by
  unfold writeS
  by_cases hp : placeS s i = 0
  · rw [if_neg (by simpa using hp)]
    by_cases hl : b.length = 256
    · rw [if_neg (by simpa using hl)]
      rw [hl] at hn
      subst hn
      exact write3 h i _ hp hl hby hX hcx hUX hPl _ rfl rfl
    · rw [if_pos hl]
      refine (write2 h i n hp (by omega)).mono ?_
      rintro ex w' ⟨rfl, hb⟩
      exact ⟨rfl, Does.same h hb⟩
  · rw [if_pos hp]
    refine (write1 h i _ n rfl hp).mono ?_
    rintro ex w' ⟨rfl, hb⟩
    exact ⟨rfl, Does.same h hb⟩
end Go.Proofs.Ythnadkdfgckijaa.Pure
namespace Go.Proofs.Ythnadkdfgckijaa.Pure
open Go.RowKit Go.Proofs.Ythnadkdfgckijaa.Mem Go.Proofs.YthnadkdfgckijaaW.PrintWords Go.Proofs.YthnadkdfgckijaaW.PrintLast Go.Proofs.YthnadkdfgckijaaW.PrintMore
set_option linter.unusedVariables false
set_option linter.unusedSimpArgs false

/-- A row's bytes, and if it has any, the block of the call's own in which it lies. -/
structure Own (w : World) (base : Nat) (A : Option Addr) (c : Nat) (l : List Int) : Prop where
  cap : l.length ≤ c
  C : Kd.C (Kd.int .u8) w A l.length l
  blk : 0 < l.length → ∃ g cur, A = some ⟨g, 0, none⟩ ∧ base ≤ g ∧ w.heap[g]? = some (.cells (List.toArray cur) 5 (0, 0)) ∧ cur.take l.length = encs (Value.int .u8) l
theorem own_of {w : World} {base : Nat} {ok : Nat → Prop} {v : Value} {l : List Int} (h : Kd.R (Kd.int .u8) 5 w base ok v l) : ∃ A c, v = .slice A l.length c ∧ Own w base A c l := by
  obtain ⟨A, c, rfl, hc, hC⟩ := Kd.R_reads h
  refine ⟨A, c, rfl, hc, hC, fun hp => ?_⟩
  obtain ⟨g, cap, cur, hv, hb, _, hh, hn, hm, hs, ht⟩ := row_blk (enc := Value.int .u8) (h1 := fun _ => rfl) h hp
  injection hv with h1 h2 h3
  exact ⟨g, cur, h1, hb, hh, ht⟩
theorem own_kept {w w1 : World} {base : Nat} {A : Option Addr} {c : Nat} {l : List Int} (h : Own w base A c l) (hk : ∀ g, 0 < l.length → A = some ⟨g, 0, none⟩ → w1.heap[g]? = w.heap[g]?) : Own w1 base A c l := by
  refine ⟨h.cap, ?_, fun hp => ?_⟩
  · rcases Nat.eq_zero_or_pos l.length with h0 | hp
    · exact ⟨rfl, h.C.2.1, fun h1 => absurd h1 (by omega)⟩
    · obtain ⟨g, cur, h1, h2, h3, h4⟩ := h.blk hp
      rw [h1]
      exact blk_C (enc := Value.int .u8) (h1 := fun _ => rfl) ((hk g hp h1).trans h3) (by simpa using h4) h.C.2.1
  · obtain ⟨g, cur, h1, h2, h3, h4⟩ := h.blk hp
    exact ⟨g, cur, h1, h2, (hk g hp h1).trans h3, h4⟩
theorem own_lt {w : World} {base : Nat} {A : Option Addr} {c : Nat} {l : List Int} (h : Own w base A c l) : ∀ g, 0 < l.length → A = some ⟨g, 0, none⟩ → base ≤ g ∧ g < w.heap.size := fun g hp hA => by
  obtain ⟨g', cur, h1, h2, h3, h4⟩ := h.blk hp
  rw [hA] at h1
  injection h1 with h1
  injection h1 with h1
  subst h1
  exact ⟨h2, blk_lt h3⟩
theorem own_below {w w1 : World} {base : Nat} {A : Option Addr} {c : Nat} {l : List Int} (h : Own w base A c l) (hb : Below w.heap.size w w1) : Own w1 base A c l := own_kept h (fun g hp hA => hb.block _ (own_lt h g hp hA).2)
theorem own_fr {w w1 : World} {base : Nat} {A : Option Addr} {c : Nat} {l : List Int} {F : Nat → Prop} (h : Own w base A c l) (hf : Fr F w w1) (hn : ∀ g, 0 < l.length → A = some ⟨g, 0, none⟩ → ¬ F g) : Own w1 base A c l := own_kept h (fun g hp hA => hf.block _ (own_lt h g hp hA).2 (hn g hp hA))
theorem own_lower {w : World} {b b0 : Nat} {A : Option Addr} {c : Nat} {l : List Int} (h : Own w b A c l) (hb : b0 ≤ b) : Own w b0 A c l := ⟨h.cap, h.C, fun hp => by
  obtain ⟨g, cur, h1, h2, h3⟩ := h.blk hp
  exact ⟨g, cur, h1, Nat.le_trans hb h2, h3⟩⟩
def RowAt (w : World) (g n : Nat) : Prop := 0 < n → ∃ cur : List Value, w.heap[g]? = some (.cells cur.toArray 5 (0, 0)) ∧ ∀ j, j < n → ∃ x, cur[j]? = some (.int .u8 x)
/-- The block in which a row lies; of a row without an element: one that is not there yet. -/
theorem pick_blk {w : World} {base : Nat} {A : Option Addr} {c : Nat} {l : List Int} (h : Own w base A c l) (hb : base ≤ w.heap.size) :
    ∃ g, base ≤ g ∧ ((l.length = 0 ∧ g = w.heap.size) ∨ (0 < l.length ∧ A = some ⟨g, 0, none⟩ ∧ g < w.heap.size)) ∧ RowAt w g l.length := by
  rcases Nat.eq_zero_or_pos l.length with h0 | hp
  · exact ⟨w.heap.size, hb, .inl ⟨h0, rfl⟩, fun hp => absurd hp (by omega)⟩
  · obtain ⟨g, cur, h1, h2, h3, h4⟩ := h.blk hp
    refine ⟨g, h2, .inr ⟨hp, h1, blk_lt h3⟩, fun _ => ⟨cur, h3, fun j hj => ⟨l[j], ?_⟩⟩⟩
    have := getD_of (L := cur) (xs := l) (o := 0) (enc := Value.int .u8) (by simpa using h4) j hj
    rwa [Nat.zero_add] at this
theorem rowAt_cell {w : World} {g n : Nat} (h : RowAt w g n) {k : Nat} (hk : k < n) : ∃ x, w.cell? ⟨g, k, none⟩ = some (.int .u8 x) ∧ w.frozen? ⟨g, k, none⟩ = false := by
  obtain ⟨cur, h1, h2⟩ := h (by omega)
  obtain ⟨x, hx⟩ := h2 k hk
  exact ⟨x, by rw [blk_cell h1]; simpa using hx, blk_frozen h1 k⟩
theorem rowAt_set {w : World} {g n : Nat} (h : RowAt w g n) (k : Nat) (y : Int) : RowAt (w.setCell ⟨g, k, none⟩ (.int .u8 y)) g n := fun hp => by
  obtain ⟨cur, h1, h2⟩ := h hp
  refine ⟨cur.set k (.int .u8 y), by rw [blk_set h1]; simp, fun j hj => ?_⟩
  rw [List.getElem?_set]
  by_cases e : k = j
  · subst e
    obtain ⟨x, hx⟩ := h2 k hj
    have hlt : k < cur.length := (List.getElem?_eq_some_iff.1 hx).1
    rw [if_pos rfl, if_pos hlt]
    exact ⟨y, rfl⟩
  · rw [if_neg e]
    exact h2 j hj
theorem rowAt_kept {w w1 : World} {g n : Nat} (h : RowAt w g n) (hk : 0 < n → w1.heap[g]? = w.heap[g]?) : RowAt w1 g n := fun hp => by
  obtain ⟨cur, h1, h2⟩ := h hp
  exact ⟨cur, (hk hp).trans h1, h2⟩
end Go.Proofs.Ythnadkdfgckijaa.Pure
namespace Go.Proofs.Ythnadkdfgckijaa.Pure
open Go.RowKit Go.Proofs.Ythnadkdfgckijaa Go.Proofs.Ythnadkdfgckijaa.PAll Go.Proofs.Ythnadkdfgckijaa.Mem Go.Proofs.YthnadkdfgckijaaW.PrintWords Go.Proofs.YthnadkdfgckijaaW.PrintLast Go.Proofs.YthnadkdfgckijaaW.PrintMore
set_option linter.unusedVariables false
set_option linter.unusedSimpArgs false
set_option linter.unusedSectionVars false

/-- Cells that are all alike. -/
@[irreducible] def rowOf (z : Value) (n : Nat) : Array Value := (List.replicate n z).toArray
theorem rowOf_eq (z : Value) (n : Nat) : rowOf z n = (List.replicate n z).toArray := by unfold rowOf; rfl
theorem info26 : (Try.prog.info? 26).map (fun i => (i.zero, i.size, i.bytes)) = some (some (.slice none 0 0), 1, 24) := by kernel_rfl
theorem made_eq (z : Value) (n : Nat) : madeCells #[z] n = rowOf z n := by
  apply Array.toList_inj.1
  rw [toList_madeCells_one, rowOf_eq]
theorem mk26n (n : Nat) (hn : n ≤ 1000000) (W : World) : (Instr.makeSlice 26 (.int .i64 (n : Int)) (.int .i64 (n : Int))).run Try.prog W = .ok (.slice (some ⟨W.heap.size, 0, none⟩) n n) (W.alloc (.cells (rowOf (.int .u8 0) n) 5)) := by
  obtain ⟨i, h1, hz⟩ := Option.map_eq_some_iff.1 info5
  simp only [Prod.mk.injEq] at hz
  obtain ⟨h2, h3, h4⟩ := hz
  have := run_make (P := Try.prog) W 26 5 i (.int .u8 0) Try.underlying26 h1 h2 .i64 .i64 (n : Int) (n : Int) (by omega) (Int.le_refl _) (by rw [h4]; omega) (by omega)
  rw [this, h3, show (Value.int IntKind.u8 0).cells = #[.int .u8 0] from rfl, made_eq]
  simp
set_option maxRecDepth 10000 in
theorem mk26 (W : World) : (Instr.makeSlice 26 (.int .i64 256) (.int .i64 256)).run Try.prog W = .ok (.slice (some ⟨W.heap.size, 0, none⟩) 256 256) (W.alloc (.cells (rowOf (.int .u8 0) 256) 5)) := mk26n 256 (by decide) W
theorem mk52n (n : Nat) (hn : n ≤ 1000000) (W : World) : (Instr.makeSlice 52 (.int .i64 (n : Int)) (.int .i64 (n : Int))).run Try.prog W = .ok (.slice (some ⟨W.heap.size, 0, none⟩) n n) (W.alloc (.cells (rowOf (.slice none 0 0) n) 26)) := by
  obtain ⟨i, h1, hz⟩ := Option.map_eq_some_iff.1 info26
  simp only [Prod.mk.injEq] at hz
  obtain ⟨h2, h3, h4⟩ := hz
  have := run_make (P := Try.prog) W 52 26 i (.slice none 0 0) Try.underlying52 h1 h2 .i64 .i64 (n : Int) (n : Int) (by omega) (Int.le_refl _) (by rw [h4]; omega) (by omega)
  rw [this, h3, show (Value.slice none 0 0).cells = #[.slice none 0 0] from rfl, made_eq]
  simp
def zer (n : Nat) : List Int := List.replicate n 0
theorem zer_len (n : Nat) : (zer n).length = n := by simp [zer]
theorem zer_bytes (n : Nat) : Bytes (zer n) := fun x h => by rw [List.eq_of_mem_replicate h]; decide
theorem rowOf_enc (n : Nat) : rowOf (.int .u8 0) n = (encs (Value.int .u8) (zer n)).toArray := by rw [rowOf_eq]; simp [encs, zer]
theorem own_new {w : World} {n : Nat} (hn : n ≤ 1000000) : Own (w.alloc (.cells (rowOf (.int .u8 0) n) 5)) w.heap.size (some ⟨w.heap.size, 0, none⟩) n (zer n) := by
  have hg := heap_new w (.cells (rowOf (.int .u8 0) n) 5)
  rw [rowOf_enc] at hg ⊢
  refine ⟨by rw [zer_len]; exact Nat.le_refl _, ?_, fun _ => ⟨w.heap.size, _, rfl, Nat.le_refl _, hg, ?_⟩⟩
  · exact blk_C (enc := Value.int .u8) (h1 := fun _ => rfl) hg (by rw [List.drop_zero, zer_len]; exact List.take_of_length_le (by simp [encs, zer])) (by rw [zer_len]; omega)
  · rw [zer_len]; exact List.take_of_length_le (by simp [encs, zer])
/-- A byte is stored into a row. -/
theorem own_set {w : World} {base g : Nat} {c : Nat} {l : List Int} (h : Own w base (some ⟨g, 0, none⟩) c l) {k : Nat} (hk : k < l.length) (x : Int) : Own (w.setCell ⟨g, k, none⟩ (.int .u8 x)) base (some ⟨g, 0, none⟩) c (l.set k x) := by
  obtain ⟨g', cur, h1, h2, h3, h4⟩ := h.blk (by omega)
  injection h1 with h1
  injection h1 with h1
  subst h1
  have hs := blk_set h3 k (.int .u8 x)
  have ht : (cur.set k (.int .u8 x)).take l.length = encs (Value.int .u8) (l.set k x) := by
    rw [List.take_set, h4]
    simp [encs]
  rw [List.setIfInBounds_toArray] at hs
  refine ⟨by rw [List.length_set]; exact h.cap, ?_, fun _ => ⟨g, _, rfl, h2, hs, by rw [List.length_set]; exact ht⟩⟩
  exact blk_C (enc := Value.int .u8) (h1 := fun _ => rfl) hs (by rw [List.drop_zero, List.length_set]; exact ht) (by rw [List.length_set]; exact h.C.2.1)
theorem own_cell {w : World} {base g : Nat} {c : Nat} {l : List Int} (h : Own w base (some ⟨g, 0, none⟩) c l) {k : Nat} (hk : k < l.length) : w.cell? ⟨g, k, none⟩ = some (.int .u8 l[k]) ∧ w.frozen? ⟨g, k, none⟩ = false := by
  obtain ⟨g', cur, h1, h2, h3, h4⟩ := h.blk (by omega)
  injection h1 with h1
  injection h1 with h1
  subst h1
  refine ⟨?_, blk_frozen h3 k⟩
  rw [blk_cell h3]
  have := getD_of (L := cur) (xs := l) (o := 0) (enc := Value.int .u8) (by simpa using h4) k hk
  rw [Nat.zero_add] at this
  simpa using this
attribute [local go_sem high] mk26 mk26n mk52n
/-- A new disk. -/
def newS (n : Nat) : DS := { B := List.replicate n (zer 256), P := [], off := false, ops := 0, armed := 0, picks := [] }
theorem new_bad (w : World) (n : Int) (h : n < 1 ∨ 2048 < n) : Calls Try.prog 35 #[.int .i64 n] w fun e w' => e = .returned (.tuple #[.pointer none, .int .i64 1]) ∧ Below w.heap.size w w' := by
  rcases h with h | h
  · have e1 : decide (n < 1) = true := by simpa using h
    clear h
    go_enter Try.func35, Try.ntmps35
    go_wp2_with fail
    go_ret2
    exact ⟨rfl, Below.refl _ _⟩
  · have e1 : decide (n < 1) = false := by simpa using (by omega : 1 ≤ n)
    have e2 : decide (2048 < n) = true := by simpa using h
    clear h
    go_enter Try.func35, Try.ntmps35
    go_wp2_with fail
    go_ret2
    exact ⟨rfl, Below.refl _ _⟩
/-- The blocks' row, when k of them are made. -/
@[irreducible] def curN (s0 n k : Nat) : List Value := (List.range n).map (fun i => if i < k then .slice (some ⟨s0 + i, 0, none⟩) 256 256 else .slice none 0 0)
theorem curN_at (s0 n k i : Nat) (h : i < n) : (curN s0 n k)[i]? = some (if i < k then .slice (some ⟨s0 + i, 0, none⟩) 256 256 else .slice none 0 0) := by
  unfold curN
  simp [h]
theorem curN_zero (s0 n : Nat) : curN s0 n 0 = List.replicate n (.slice none 0 0) := by
  unfold curN
  apply List.ext_getElem?
  intro i
  by_cases h : i < n
  · simp [h]
  · simp [h]
theorem curN_set (s0 n k : Nat) (h : k < n) : (curN s0 n k).set k (.slice (some ⟨s0 + k, 0, none⟩) 256 256) = curN s0 n (k + 1) := by
  unfold curN
  apply List.ext_getElem?
  intro i
  rw [List.getElem?_set]
  by_cases hi : k = i
  · subst hi
    simp [h]
  · rw [if_neg hi]
    by_cases hn : i < n
    · simp only [List.getElem?_map, List.getElem?_range hn, Option.map_some]
      have : (i < k) = (i < k + 1) := by apply propext; omega
      simp only [this]
    · simp [hn]
structure NewAt (w0 w' : World) (gB gD s0 n k : Nat) : Prop where
  size : w'.heap.size = s0 + k
  rows : ∀ i, i < k → w'.heap[s0 + i]? = some (.cells (rowOf (.int .u8 0) 256) 5 (0, 0))
  blk : w'.heap[gB]? = some (.cells (curN s0 n k).toArray 26 (0, 0))
  dsk : w'.heap[gD]? = some (.cells (dkCs (some ⟨gB, 0, none⟩) n n (.slice none 0 0) (.bool false) (.int .i64 0) (.int .i64 0) (.slice none 0 0)) 55 (0, 0))
  below : Below w0.heap.size w0 w'
  ne : gB < s0 ∧ gD < s0 ∧ gB ≠ gD ∧ w0.heap.size ≤ gB ∧ w0.heap.size ≤ gD
theorem NewAt.step {w0 w' : World} {gB gD s0 n k : Nat} (h : NewAt w0 w' gB gD s0 n k) (hk : k < n) : NewAt w0 ((w'.alloc (.cells (rowOf (.int .u8 0) 256) 5)).setCell ⟨gB, k, none⟩ (.slice (some ⟨s0 + k, 0, none⟩) 256 256)) gB gD s0 n (k + 1) := by
  obtain ⟨h1, h2, h3, h4, h5, h6⟩ := h
  have hbn := (Below.refl w'.heap.size w').alloc (Nat.le_refl _) (.cells (rowOf (.int .u8 0) 256) 5)
  have o : ∀ i, i ≠ gB → ((w'.alloc (.cells (rowOf (.int .u8 0) 256) 5)).setCell ⟨gB, k, none⟩ (.slice (some ⟨s0 + k, 0, none⟩) 256 256)).heap[i]? = (w'.alloc (.cells (rowOf (.int .u8 0) 256) 5)).heap[i]? := fun i hi => Below.heap_setCell _ ⟨gB, k, none⟩ _ i hi
  refine ⟨by simp [World.setCell, h1]; omega, fun i hi => ?_, ?_, ?_, ?_, h6⟩
  · rw [o _ (by omega)]
    by_cases e : i = k
    · subst e
      rw [← h1]
      exact heap_new w' _
    · exact (hbn.block _ (by omega)).trans (h2 i (by omega))
  · have := blk_set ((hbn.block _ (blk_lt h3)).trans h3) k (.slice (some ⟨s0 + k, 0, none⟩) 256 256)
    rw [List.setIfInBounds_toArray, curN_set _ _ _ hk] at this
    exact this
  · rw [o _ (Ne.symm h6.2.2.1)]
    exact (hbn.block _ (blk_lt h4)).trans h4
  · exact ((h5.trans (hbn.mono h5.size))).setCell (p := ⟨gB, k, none⟩) h6.2.2.2.1 _
theorem NewAt.drew {w0 w' : World} {gB gD s0 n k : Nat} (h : NewAt w0 w' gB gD s0 n k) : NewAt w0 w'.drew gB gD s0 n k := ⟨h.size, h.rows, h.blk, h.dsk, h.below.drew, h.ne⟩
theorem NewAt.dk {w0 w' : World} {gB gD s0 n : Nat} (h : NewAt w0 w' gB gD s0 n n) (hn : 0 < n) : DK w' gD (fun k => w0.heap.size ≤ k ∧ k < w'.heap.size) (newS n) := by
  obtain ⟨h1, h2, h3, h4, h5, h6⟩ := h
  have hl : (newS n).B.length = n := by simp [newS]
  refine ⟨fun k q => q.2, ⟨h6.2.2.2.2, blk_lt h4⟩, penOk_nil _, by rw [hl]; exact hn, some ⟨gB, 0, none⟩, none, n, 0, .slice none 0 0, fun k => w0.heap.size ≤ k ∧ k < w'.heap.size ∧ k ≠ gD, fun _ => False, fun _ => False, ?_, ?_, R_none _ _, F_none _ _, Nat.le_refl _, fun k q => ⟨⟨q.1, q.2.1⟩, q.2.2⟩, fun k q => q.elim, fun k q => q.elim⟩
  · rw [hl]; exact h4
  · refine ⟨fun b hb => ?_, gB, fun i => s0 + i, fun _ => 256, curN s0 n n, rfl, by rw [hl]; exact Nat.le_refl _, ⟨h6.2.2.2.1, blk_lt h3, h6.2.2.1⟩, h3, fun i hi => ?_, fun i j _ _ e => Nat.add_left_cancel e⟩
    · rw [List.eq_of_mem_replicate hb]
      exact ⟨zer_len _, zer_bytes _⟩
    · rw [hl] at hi
      refine ⟨by rw [curN_at _ _ _ _ hi, if_pos hi], Nat.le_refl _, (show w0.heap.size ≤ s0 + i ∧ s0 + i < w'.heap.size ∧ s0 + i ≠ gD from by omega), by show s0 + i ≠ gB; omega, encs (Value.int .u8) (zer 256), by rw [h2 i hi, rowOf_enc], ?_⟩
      rw [show (newS n).B.getD i [] = zer 256 by unfold newS; show (List.replicate n (zer 256)).getD i [] = zer 256; rw [List.getD_eq_getElem?_getD, List.getElem?_replicate, if_pos hi]; rfl]
      exact List.take_of_length_le (by rw [encs, List.length_map, zer_len]; exact Nat.le_refl _)
set_option maxRecDepth 100000 in
set_option maxHeartbeats 16000000 in
theorem new_ok (w : World) (N : Nat) (h1 : 1 ≤ N) (h2 : N ≤ 2048) : Calls Try.prog 35 #[.int .i64 (N : Int)] w fun e w' => ∃ g, e = .returned (.tuple #[.pointer (some ⟨g, 0, none⟩), .int .i64 0]) ∧ w.heap.size ≤ g ∧ DK w' g (fun k => w.heap.size ≤ k ∧ k < w'.heap.size) (newS N) ∧ Below w.heap.size w w' := by
  have e1 : decide ((N : Int) < 1) = false := by simpa using (by omega : (1 : Int) ≤ (N : Int))
  have e2 : decide (2048 < (N : Int)) = false := by simpa using (by omega : (N : Int) ≤ 2048)
  have hN : N ≤ 1000000 := by omega
  have BN := Aside0.mk (And.intro h1 h2)
  clear h1 h2
  go_enter Try.func35, Try.ntmps35
  go_wp2_with fail
  obtain ⟨w2, hw2⟩ : ∃ x, x = ((w.alloc (Obj.cells (rowOf (Value.slice none 0 0) N) 26)).alloc (Obj.cells #[Value.slice (some { block := w.heap.size, off := 0 }) N N, Value.slice none 0 0, Value.bool false, Value.int IntKind.i64 0, Value.int IntKind.i64 0, Value.slice none 0 0] 55)) := ⟨_, rfl⟩
  have J0 := Aside0.mk (show NewAt w w2 w.heap.size (w.heap.size + 1) (w.heap.size + 1 + 1) N 0 from by
    have n1 := heap_new w (Obj.cells (rowOf (Value.slice none 0 0) N) 26)
    have n2 := heap_new (w.alloc (Obj.cells (rowOf (Value.slice none 0 0) N) 26)) (Obj.cells #[Value.slice (some { block := w.heap.size, off := 0 }) N N, Value.slice none 0 0, Value.bool false, Value.int IntKind.i64 0, Value.int IntKind.i64 0, Value.slice none 0 0] 55)
    rw [World.size_alloc] at n2
    rw [hw2]
    refine ⟨by simp, fun i hi => absurd hi (by omega), ?_, n2, ((Below.refl w.heap.size w).alloc (Nat.le_refl _) _).alloc (by simp) _, by omega⟩
    rw [curN_zero, ← rowOf_eq]
    exact (Below.heap_alloc _ _ w.heap.size (by simp)).trans n1)
  rw [← hw2]
  clear hw2
  obtain ⟨gB, hgB⟩ : ∃ x, x = w.heap.size := ⟨_, rfl⟩
  obtain ⟨gD, hgD⟩ : ∃ x, x = w.heap.size + 1 := ⟨_, rfl⟩
  obtain ⟨s0, hs0⟩ : ∃ x, x = w.heap.size + 1 + 1 := ⟨_, rfl⟩
  rw [← hs0, ← hgD, ← hgB] at J0
  rw [← hgD, ← hgB]
  have GD := Aside0.mk (show w.heap.size ≤ gD from by omega)
  clear hs0 hgD hgB e1 e2
  go_loopg [21] N (fun q v w' => ∃ (k : Nat), v = .int .i64 (k : Int) ∧ Aside0 (k + q = N) ∧ Aside0 (NewAt w w' gB gD s0 N k))
  case atStart => exact ⟨0, rfl, ⟨Nat.zero_add _⟩, J0⟩
  case round =>
    clear J0
    obtain ⟨k, rfl, HJ, JJ⟩ := hrel
    by_cases hlt : k < N
    case pos =>
      have hgd := (di_t hlt).1
      have hgd2 := (di_t hlt).2
      have HN := Aside0.mk (st_n HJ.out hlt).1
      have HM := Aside0.mk (st_n HJ.out hlt).2
      have HV := Aside0.mk (stepv hlt (by omega))
      have J1 := Aside0.mk (JJ.out.step hlt)
      obtain ⟨z0, z1, z2, z3, z4, z5⟩ := dk_cells JJ.out.dsk
      have c0 : wr.cell? ⟨gB, k, none⟩ = some (.slice none 0 0) := by rw [blk_cell JJ.out.blk]; simpa using (curN_at s0 N k k hlt).trans (by rw [if_neg (Nat.lt_irrefl _)])
      have f0 := blk_frozen JJ.out.blk k
      have hbn := (Below.refl wr.heap.size wr).alloc (Nat.le_refl _) (.cells (rowOf (.int .u8 0) 256) 5)
      have hga := (hbn.block _ (blk_lt JJ.out.blk)).trans JJ.out.blk
      have hda := (hbn.block _ (blk_lt JJ.out.dsk)).trans JJ.out.dsk
      have d0 := (dk_cells hda).1
      have d1 : (wr.alloc (.cells (rowOf (.int .u8 0) 256) 5)).cell? ⟨gB, k, none⟩ = some (.slice none 0 0) := by rw [blk_cell hga]; simpa using (curN_at s0 N k k hlt).trans (by rw [if_neg (Nat.lt_irrefl _)])
      have d2 := blk_frozen hga k
      clear hbn hga hda z1 z2 z3 z4 z5
      go_upto_region 7 with fail
      go_region
      have e9 : s0 + k = wr.heap.size := JJ.out.size.symm
      have JN := Aside0.mk J1.out.drew
      rw [e9] at JN
      clear z0 c0 f0 d0 d1 d2 e9 J1
      obtain ⟨wn, hwn⟩ : ∃ x, x = ((wr.alloc (Obj.cells (rowOf (Value.int IntKind.u8 0) 256) 5)).setCell { block := gB, off := k } (Value.slice (some { block := wr.heap.size, off := 0 }) 256 256)).drew := ⟨_, rfl⟩
      rw [← hwn] at JN ⊢
      clear hwn
      go_wp2_with fail
      go_roundg (gk - 1)
      case measure => exact HM.out
      case rel => exact ⟨k + 1, by first | exact HV.out | rfl, HN, JN⟩
    have hke : k = N := en_k HJ.out hlt
    subst hke
    have hge := (di_f (rfl : k = k)).1
    have DD := Aside0.mk (JJ.out.dk BN.out.1)
    have BB := Aside0.mk JJ.out.below
    clear hlt JJ
    go_wp2_with fail
    go_ret2
    exact ⟨_, rfl, GD.out, DD.out, BB.out⟩
end Go.Proofs.Ythnadkdfgckijaa.Pure
namespace Go.Proofs.Ythnadkdfgckijaa.PAll
open Go.RowKit Go.Proofs.YthnadkdfgckijaaW.PrintWords Go.Proofs.YthnadkdfgckijaaW.PrintLast Go.Proofs.YthnadkdfgckijaaW.PrintMore
attribute [local go_sem] max2_int min2_int max_two min_two max_three min_three max_four min_four   -- for this text's walks alone
set_option linter.unusedVariables false
set_option linter.unusedSimpArgs false

attribute [local go_sem] setCell_drewN_
/-! bytes_Equal: function 20 -/
def bytes_Equal.f (l0 : List Int) (l1 : List Int) : Option (Bool) := some ((strOfNums l0).toList == (strOfNums l1).toList)
set_option maxHeartbeats 8000000 in
set_option maxRecDepth 100000 in
theorem bytes_Equal.calls (A0 : Option Addr) (c0 : Nat) (l0 : List Int) (A1 : Option Addr) (c1 : Nat) (l1 : List Int) (r : Bool) (w : World) (hr0 : Kd.C (Kd.int .u8) w A0 l0.length l0) (hc0 : l0.length ≤ c0) (hr1 : Kd.C (Kd.int .u8) w A1 l1.length l1) (hc1 : l1.length ≤ c1) (h : bytes_Equal.f l0 l1 = some r) :
    Calls Try.prog 20 #[.slice A0 l0.length c0, .slice A1 l1.length c1] w fun e w' => e = .returned (.bool r) ∧ Drawn0 w w' := by
  have HR0 := Aside0.mk hr0
  have HC0 := Aside0.mk hc0
  clear hr0 hc0
  have HR1 := Aside0.mk hr1
  have HC1 := Aside0.mk hc1
  clear hr1 hc1
  have H : (some ((strOfNums l0).toList == (strOfNums l1).toList)) = some r := h
  clear h
  obtain rfl := Option.some.inj H
  have hcv3 := Kd.C_string (P := Try.prog) (A := A0) (c := c0) Try.underlying26 Try.underlying5 Try.underlying9 HR0.out
  have hcv4 := Kd.C_string (P := Try.prog) (A := A1) (c := c1) Try.underlying26 Try.underlying5 Try.underlying9 HR1.out
  go_enter Try.func20, Try.ntmps20
  go_wp2
  go_ret
  exact ⟨by first | rfl | (simp; done) | (simp [*]; done), by repeat (first | exact Drawn0.refl _ | apply Drawn0.step)⟩
end Go.Proofs.Ythnadkdfgckijaa.PAll
namespace Go.Proofs.Ythnadkdfgckijaa.Pure
open Go.RowKit Go.Proofs.Ythnadkdfgckijaa Go.Proofs.Ythnadkdfgckijaa.PAll Go.Proofs.Ythnadkdfgckijaa.Mem Go.Proofs.YthnadkdfgckijaaW.PrintWords Go.Proofs.YthnadkdfgckijaaW.PrintLast Go.Proofs.YthnadkdfgckijaaW.PrintMore
set_option linter.unusedVariables false
set_option linter.unusedSimpArgs false
set_option linter.unusedSectionVars false

theorem ofNat_inj8 {x y : Int} (hx : 0 ≤ x ∧ x < 256) (hy : 0 ≤ y ∧ y < 256) (h : UInt8.ofNat x.toNat = UInt8.ofNat y.toNat) : x = y := by
  have h2 := congrArg UInt8.toNat h
  simp only [UInt8.toNat_ofNat'] at h2
  omega
theorem map8_inj : ∀ (x y : List Int), Bytes x → Bytes y → (x.map fun n => UInt8.ofNat n.toNat) = (y.map fun n => UInt8.ofNat n.toNat) → x = y
  | [], [], _, _, _ => rfl
  | [], _ :: _, _, _, h => by simp at h
  | _ :: _, [], _, _, h => by simp at h
  | a :: x, b :: y, hx, hy, h => by
    simp only [List.map_cons, List.cons.injEq] at h
    rw [ofNat_inj8 (hx a (by simp)) (hy b (by simp)) h.1, map8_inj x y (fun z hz => hx z (by simp [hz])) (fun z hz => hy z (by simp [hz])) h.2]
theorem str_eq {x y : List Int} (hx : Bytes x) (hy : Bytes y) : ((strOfNums x).toList == (strOfNums y).toList) = decide (x = y) := by
  by_cases h : x = y
  · subst h
    simp
  · rw [decide_eq_false h, Go.Lib.strOfNums_toList, Go.Lib.strOfNums_toList, beq_eq_false_iff_ne]
    intro e
    exact h (map8_inj x y hx hy e)
theorem equal_c {w : World} {A0 A1 : Option Addr} {c0 c1 n0 n1 : Nat} {a b : List Int} (h0 : Kd.C (Kd.int .u8) w A0 a.length a) (h1 : Kd.C (Kd.int .u8) w A1 b.length b) (e0 : a.length = n0) (e1 : b.length = n1) (k0 : n0 ≤ c0) (k1 : n1 ≤ c1) (ha : Bytes a) (hb : Bytes b) :
    Calls Try.prog 20 #[.slice A0 n0 c0, .slice A1 n1 c1] w fun e w' => e = .returned (.bool (decide (a = b))) ∧ Below w.heap.size w w' := by
  subst e0 e1
  refine (bytes_Equal.calls A0 c0 a A1 c1 b _ w h0 k0 h1 k1 rfl).mono ?_
  rintro e w' ⟨rfl, hd⟩
  exact ⟨by rw [str_eq ha hb], drawn_below hd⟩
set_option maxRecDepth 10000 in
theorem mk26_600 (W : World) : (Instr.makeSlice 26 (.int .i64 600) (.int .i64 600)).run Try.prog W = .ok (.slice (some ⟨W.heap.size, 0, none⟩) 600 600) (W.alloc (.cells (rowOf (.int .u8 0) 600) 5)) := mk26n 600 (by decide) W
attribute [local go_sem high] mk26 mk26n mk52n mk26_600
/-- A block whose sectors are of one byte each, when k bytes are there. -/
def fillG (n : Nat) (c : Int) (k : Nat) : List Int := (List.range n).map (fun j => if j < k then (c + (j : Int) / 64) % 256 else 0)
@[irreducible] def fillK (c : Int) (k : Nat) : List Int := fillG 256 c k
def fillL (c : Int) : List Int := fillK c 256
theorem fillG_zero (n : Nat) (c : Int) : fillG n c 0 = zer n := by
  unfold fillG zer
  apply List.ext_getElem?
  intro i
  by_cases h : i < n
  · simp [h]
  · simp [h]
theorem fillG_set (n : Nat) (c : Int) (k : Nat) (h : k < n) : (fillG n c k).set k ((c + (k : Int) / 64) % 256) = fillG n c (k + 1) := by
  unfold fillG
  apply List.ext_getElem?
  intro i
  rw [List.getElem?_set]
  by_cases hi : k = i
  · subst hi
    simp [h]
  · rw [if_neg hi]
    by_cases hn : i < n
    · simp only [List.getElem?_map, List.getElem?_range hn, Option.map_some]
      have : (i < k) = (i < k + 1) := by apply propext; omega
      simp only [this]
    · simp [hn]
theorem fillG_len (n : Nat) (c : Int) (k : Nat) : (fillG n c k).length = n := by simp [fillG]
theorem fillK_len (c : Int) (k : Nat) : (fillK c k).length = 256 := by unfold fillK; exact fillG_len _ _ _
theorem fillL_len (c : Int) : (fillL c).length = 256 := fillK_len c 256
theorem fillK_zero (c : Int) : fillK c 0 = zer 256 := by unfold fillK; exact fillG_zero _ _
theorem fillK_set (c : Int) (k : Nat) (h : k < 256) : (fillK c k).set k ((c + (k : Int) / 64) % 256) = fillK c (k + 1) := by unfold fillK; exact fillG_set _ _ _ h
theorem fillL_bytes (c : Int) : Bytes (fillL c) := by
  intro x hx
  unfold fillL fillK fillG at hx
  simp only [List.mem_map, List.mem_range] at hx
  obtain ⟨j, hj, rfl⟩ := hx
  rw [if_pos hj]
  omega
set_option maxRecDepth 100000 in
set_option maxHeartbeats 16000000 in
theorem filled_c (w : World) (c : Int) : Calls Try.prog 38 #[.int .u8 c] w fun e w' => ∃ gY, e = .returned (.slice (some ⟨gY, 0, none⟩) 256 256) ∧ Own w' w.heap.size (some ⟨gY, 0, none⟩) 256 (fillL c) ∧ Below w.heap.size w w' := by
  go_enter Try.func38, Try.ntmps38
  go_wp2_with fail
  obtain ⟨w2, hw2⟩ : ∃ x, x = w.alloc (Obj.cells (rowOf (Value.int IntKind.u8 0) 256) 5) := ⟨_, rfl⟩
  have O0 := Aside0.mk (show Own w2 w.heap.size (some ⟨w.heap.size, 0, none⟩) 256 (fillK c 0) from by rw [hw2, fillK_zero]; exact own_new (by decide))
  have B0 := Aside0.mk (show Below w.heap.size w w2 from by rw [hw2]; exact (Below.refl w.heap.size w).alloc (Nat.le_refl _) _)
  rw [← hw2]
  clear hw2
  obtain ⟨gY, hgY⟩ : ∃ x, x = w.heap.size := ⟨_, rfl⟩
  have GY := Aside0.mk (show w.heap.size ≤ gY from Nat.le_of_eq hgY.symm)
  rw [← hgY]
  have O1 := Aside0.mk (show Own w2 w.heap.size (some ⟨gY, 0, none⟩) 256 (fillK c 0) from by rw [hgY]; exact O0.out)
  clear O0 hgY
  go_loopg [8] 256 (fun q v w' => ∃ (k : Nat), v = .int .i64 (k : Int) ∧ Aside0 (k + q = 256) ∧ Aside0 (Own w' w.heap.size (some ⟨gY, 0, none⟩) 256 (fillK c k)) ∧ Aside0 (Below w.heap.size w w'))
  case atStart => exact ⟨0, rfl, ⟨Nat.zero_add _⟩, O1, B0⟩
  case round =>
    clear O1 B0
    obtain ⟨k, rfl, HJ, JJ, BB⟩ := hrel
    by_cases hlt : k < 256
    case pos =>
      have hgd : decide ((k : Int) < 256) = true := (di_t hlt).1
      have hgd2 : decide (k < 256) = true := (di_t hlt).2
      have HN := Aside0.mk (st_n HJ.out hlt).1
      have HM := Aside0.mk (st_n HJ.out hlt).2
      have HV := Aside0.mk (stepv hlt (by decide))
      obtain ⟨c0, f0⟩ := own_cell JJ.out (show k < (fillK c k).length by rw [fillK_len]; exact hlt)
      have JN := Aside0.mk (own_set JJ.out (show k < (fillK c k).length by rw [fillK_len]; exact hlt) ((c + (k : Int) / 64) % 256))
      rw [fillK_set c k hlt] at JN
      have BN := Aside0.mk (BB.out.setCell (p := ⟨gY, k, none⟩) GY.out (.int .u8 ((c + (k : Int) / 64) % 256)))
      go_wp2_with fail
      go_roundg (gk - 1)
      case measure => exact HM.out
      case rel => exact ⟨k + 1, by first | exact HV.out | rfl, HN, JN, BN⟩
    have hke : k = 256 := en_k HJ.out hlt
    subst hke
    have hge : decide (((256 : Nat) : Int) < 256) = false := by decide
    clear hlt
    go_wp2_with fail
    go_ret
    exact ⟨_, rfl, JJ.out, BB.out⟩
/-- What an operation writes. -/
def blockL (fill len : Int) : List Int := if 0 ≤ len then zer (min len 600).toNat else fillL fill
theorem blockL_bytes (fill len : Int) : Bytes (blockL fill len) := by
  unfold blockL
  split
  · exact zer_bytes _
  · exact fillL_bytes _
theorem blockL_len (fill len : Int) : (blockL fill len).length ≤ 600 := by
  unfold blockL
  split
  · rw [zer_len]; omega
  · rw [fillL_len]; decide
set_option maxRecDepth 100000 in
set_option maxHeartbeats 16000000 in
theorem block_c (w : World) (o1 o2 fill len o5 : Int) (o6 : Value) : Calls Try.prog 17 #[.agg #[.int .i64 o1, .int .i64 o2, .int .u8 fill, .int .i64 len, .int .i64 o5, o6]] w fun e w' => ∃ gY, e = .returned (.slice (some ⟨gY, 0, none⟩) (blockL fill len).length (blockL fill len).length) ∧ Own w' w.heap.size (some ⟨gY, 0, none⟩) (blockL fill len).length (blockL fill len) ∧ Below w.heap.size w w' := by
  obtain ⟨r, hr⟩ : ∃ r, r = blockL fill len := ⟨_, rfl⟩
  rw [← hr]
  unfold blockL at hr
  by_cases h : 0 ≤ len
  · rw [if_pos h] at hr
    have e1 : decide (0 ≤ len) = true := by simpa using h
    by_cases h6 : len ≤ 600
    · obtain ⟨m, rfl⟩ : ∃ m : Nat, len = (m : Int) := ⟨len.toNat, by omega⟩
      rw [show (min (m : Int) 600).toNat = m by omega] at hr
      subst hr
      have hm3 : m ≤ 1000000 := by omega
      have hm4 : (m : Int) ≤ 600 := h6
      have HM := Aside0.mk hm3
      clear h h6
      have OO := Aside0.mk (show Own ((w.alloc (.cells #[.int .i64 o1, .int .i64 o2, .int .u8 fill, .int .i64 (m : Int), .int .i64 o5, o6] 29)).alloc (.cells (rowOf (.int .u8 0) m) 5)) w.heap.size (some ⟨w.heap.size + 1, 0, none⟩) m (zer m) from by
        have h := own_lower (own_new (w := w.alloc (.cells #[.int .i64 o1, .int .i64 o2, .int .u8 fill, .int .i64 (m : Int), .int .i64 o5, o6] 29)) (n := m) HM.out) (b0 := w.heap.size) (by simp)
        rw [World.size_alloc] at h
        exact h)
      have BB := Aside0.mk (((Below.refl w.heap.size w).alloc (Nat.le_refl _) (.cells #[.int .i64 o1, .int .i64 o2, .int .u8 fill, .int .i64 (m : Int), .int .i64 o5, o6] 29)).alloc (by simp) (.cells (rowOf (.int .u8 0) m) 5))
      clear HM
      go_enter Try.func17, Try.ntmps17
      go_wp2_with fail
      go_ret
      rw [zer_len]
      exact ⟨_, rfl, OO.out, BB.out⟩
    · rw [show (min len 600).toNat = 600 by omega] at hr
      subst hr
      have h7 : 600 < len := by omega
      have HM := Aside0.mk (show 600 ≤ 1000000 by decide)
      clear h h6
      have OO := Aside0.mk (show Own ((w.alloc (.cells #[.int .i64 o1, .int .i64 o2, .int .u8 fill, .int .i64 len, .int .i64 o5, o6] 29)).alloc (.cells (rowOf (.int .u8 0) 600) 5)) w.heap.size (some ⟨w.heap.size + 1, 0, none⟩) 600 (zer 600) from by
        have h := own_lower (own_new (w := w.alloc (.cells #[.int .i64 o1, .int .i64 o2, .int .u8 fill, .int .i64 len, .int .i64 o5, o6] 29)) (n := 600) HM.out) (b0 := w.heap.size) (by simp)
        rw [World.size_alloc] at h
        exact h)
      have BB := Aside0.mk (((Below.refl w.heap.size w).alloc (Nat.le_refl _) (.cells #[.int .i64 o1, .int .i64 o2, .int .u8 fill, .int .i64 len, .int .i64 o5, o6] 29)).alloc (by simp) (.cells (rowOf (.int .u8 0) 600) 5))
      clear HM
      go_enter Try.func17, Try.ntmps17
      go_wp2_with fail
      go_ret
      rw [zer_len]
      exact ⟨_, rfl, OO.out, BB.out⟩
  · rw [if_neg h] at hr
    subst hr
    have e1 : decide (0 ≤ len) = false := by simpa using h
    clear h
    go_enter Try.func17, Try.ntmps17
    go_wp2_with fail
    refine (filled_c _ fill).mono ?_
    rintro e w2 ⟨gY, rfl, hO, hb⟩
    have hbn := (Below.refl w.heap.size w).alloc (Nat.le_refl _) (.cells #[.int .i64 o1, .int .i64 o2, .int .u8 fill, .int .i64 len, .int .i64 o5, o6] 29)
    have OO := Aside0.mk (own_lower hO (b0 := w.heap.size) (by simp))
    have BB := Aside0.mk (hbn.trans (hb.mono (by simp)))
    clear hO hb hbn
    go_wp2_with fail
    go_ret
    rw [fillL_len]
    exact ⟨_, rfl, OO.out, BB.out⟩
end Go.Proofs.Ythnadkdfgckijaa.Pure
namespace Go.Proofs.Ythnadkdfgckijaa.Pure
open Go.RowKit Go.Proofs.Ythnadkdfgckijaa Go.Proofs.Ythnadkdfgckijaa.PAll Go.Proofs.Ythnadkdfgckijaa.Mem Go.Proofs.YthnadkdfgckijaaW.PrintWords Go.Proofs.YthnadkdfgckijaaW.PrintLast Go.Proofs.YthnadkdfgckijaaW.PrintMore
set_option linter.unusedVariables false
set_option linter.unusedSimpArgs false

/-- The order in which what is pending comes up. -/
def down (N : Nat) : List Nat := (List.range N).reverse
theorem down_len (N : Nat) : (down N).length = N := by simp [down]
theorem down_take (N k x : Nat) (h : k + x + 1 = N) : (down N).take (k + 1) = (down N).take k ++ [x] := by
  rw [List.take_add_one]
  congr 1
  unfold down
  rw [List.getElem?_reverse (by simp; omega), List.length_range, List.getElem?_range (by omega)]
  simp
  omega
abbrev wenc (cI : Nat → Int) (cA : Nat → Option Addr) (cC : Nat → Nat) (x : Nat) : Array Value := #[.int .i64 (x : Int), .agg #[.int .i64 (cI x), .slice (cA x) 256 (cC x)]]
set_option maxRecDepth 100000 in
set_option maxHeartbeats 4000000 in
theorem go87 (n : Nat) (hn : 1 ≤ n) (lo : Nat) (N cP : Nat) (AP : Option Addr) (cI : Nat → Int) (cA : Nat → Option Addr) (cC : Nat → Nat) (gb : Nat) (S : Nat → Prop) (J Jx : List Nat → World → Prop) (w : World) (hN : N ≤ 1000000)
    (hb : Boxed w gb 53 (.slice AP N cP)) (hbS : ¬ S gb) (hC : ∀ x, x < N → ∃ ad, AP = some ad ∧ ad.block < w.heap.size ∧ ¬ S ad.block ∧ w.cell? (ad.add (x * 2)) = some (.int .i64 (cI x)) ∧ w.cell? ⟨(ad.add (x * 2)).block, (ad.add (x * 2)).off + 1, none⟩ = some (.slice (cA x) 256 (cC x)))
    (hY : ∀ pre x W, J pre W → pre.length < N → YieldAt Fence.wide (n - 1) Try.prog lo (wenc cI cA cC x) W fun e W' =>
      (e = .returned (.bool true) ∧ J (pre ++ [x]) W' ∧ Kept W W' S) ∨ (e = .returned (.bool false) ∧ Jx (pre ++ [x]) W'))
    (W : World) (hW : Kept w W S) (hJ0 : J [] W) :
    CallsIn Fence.wide n Try.prog 87 #[.func (.yield lo) #[] #[], .pointer (some ⟨gb, 0, none⟩)] W fun e W' => (∃ v, e = .returned v) ∧
      ((∃ zs, zs = down N ∧ J zs W') ∨ (∃ pre, (∃ k, k ≤ N ∧ pre = (down N).take k) ∧ Jx pre W')) := by
  have HY := Aside0.mk hY
  have BX := Aside0.mk (show ∀ W', Kept w W' S → W'.cell? ⟨gb, 0, none⟩ = some (.slice AP N cP) from fun W' hk => (show Boxed W' gb 53 _ from (hk.2 gb hb.lt hbS).trans hb).cell)
  have RX := Aside0.mk (show ∀ W', Kept w W' S → ∀ x (h : x < N), ∃ ad, AP = some ad ∧ W'.cell? (ad.add (x * 2)) = some (.int .i64 (cI x)) ∧ W'.cell? ⟨(ad.add (x * 2)).block, (ad.add (x * 2)).off + 1, none⟩ = some (.slice (cA x) 256 (cC x)) from fun W' hk x h => by
    obtain ⟨ad, h1, h2, h3, h4, h5⟩ := hC x h
    have hbk := hk.2 ad.block h2 h3
    refine ⟨ad, h1, (World.cell?_of_block (by rw [add_block]; exact hbk)).trans h4, (World.cell?_of_block (by show W'.heap[(ad.add (x * 2)).block]? = _; rw [add_block]; exact hbk)).trans h5⟩)
  have b1 := BX.out W hW
  have HW := Aside0.mk hW
  have HJ0 := Aside0.mk hJ0
  have NN := Aside0.mk hN
  clear hY hb hbS hC hW hJ0 hN
  refine callsIn_of_wp Try.func87 rfl trivial ?_ rfl
  simp only [Try.ntmps87, List.size_toArray, List.length_cons, List.length_nil, Nat.reduceAdd, Nat.reduceSub, Array.replicate_succ, Array.replicate_zero, List.push_toArray, List.append_toArray, List.nil_append, List.cons_append]
  have hw0 : wrap64 ((N : Int) - 1) = (N : Int) - 1 := w64id (by omega) (by have := NN.out; omega)
  gi_wp2_with fail
  clear b1
  have HW0 := Aside0.mk hw0
  clear hw0
  gi_loopw [3] (fun v wr => ∃ (k : Nat) (z : Int), v = .int .i64 z ∧ Aside0 (z + k + 1 = (N : Int) ∧ k ≤ N) ∧ Aside0 (Kept w wr S) ∧ Aside0 (J ((down N).take k) wr)) (fun v _ => (intOf v + 1).toNat)
  case atStart => exact ⟨0, (N : Int) - 1, (by first | rfl | rw [HW0.out]), ⟨by omega, Nat.zero_le _⟩, HW, ⟨by rw [List.take_zero]; exact HJ0.out⟩⟩
  case round =>
    obtain ⟨k, z, rfl, HZ, HK, HJ⟩ := hrel
    by_cases hlt : k < N
    · obtain ⟨x, hx⟩ : ∃ x : Nat, k + x + 1 = N := ⟨N - k - 1, by omega⟩
      obtain rfl : z = (x : Int) := by have := HZ.out.1; omega
      have hxN : x < N := by omega
      have hgd : decide ((x : Int) ≥ 0) = true := decide_eq_true (by omega)
      have hgd2 : decide ((0 : Int) ≤ (x : Int)) = true := decide_eq_true (by omega)
      have b1 := BX.out wr HK.out
      obtain ⟨ad, hAP, q0, q1⟩ := RX.out wr HK.out x hxN
      obtain ⟨fn, tmps, assign, body, hy, hR⟩ := HY.out _ x wr HJ.out (by rw [List.length_take, down_len]; omega)
      dsimp only [wenc] at hy
      subst hAP
      have HR := Aside0.mk hR
      have HX := Aside0.mk (And.intro hx hxN)
      have hw1 : wrap64 ((x : Int) - 1) = (x : Int) - 1 := w64id (by omega) (by have := NN.out; omega)
      clear hR hx hlt
      gi_wp2_with fail
      refine HR.out.mono ?_
      rintro e W3 (⟨rfl, hJ3, hK3⟩ | ⟨rfl, hJx3⟩)
      · have HJ3 := Aside0.mk hJ3
        have HK3 := Aside0.mk (HK.out.then_ hK3 (fun _ h => .inl h))
        clear hJ3 hK3 hy HR q0 q1 b1
        gi_wp2_with fail
        go_roundw
        case rel => exact ⟨k + 1, (x : Int) - 1, (by first | rfl | rw [hw1]), ⟨by have := HX.out.1; omega, by have := HX.out; omega⟩, HK3, ⟨by rw [down_take N k x HX.out.1]; exact HJ3.out⟩⟩
        case measure => simp [intOf]; omega
      · have HJX := Aside0.mk hJx3
        clear hy HR q0 q1 b1 hJx3
        gi_wp2_with fail
        refine bodyPost_ret (results_none rfl _ _ _) rfl ?_
        exact ⟨⟨_, rfl⟩, .inr ⟨_, ⟨k + 1, by have := HX.out; omega, rfl⟩, by rw [down_take N k x HX.out.1]; exact HJX.out⟩⟩
    · obtain rfl : k = N := by have := HZ.out.2; omega
      obtain rfl : z = -1 := by have := HZ.out.1; omega
      have HJ' := Aside0.mk (show J (down k) wr from by have h := HJ.out; rw [List.take_of_length_le (by rw [down_len]; exact Nat.le_refl _)] at h; exact h)
      clear HJ hlt
      gi_wp2_with fail
      go_end0
      exact ⟨⟨_, rfl⟩, .inl ⟨_, rfl, HJ'.out⟩⟩
theorem go87_stops (n : Nat) (hn : 1 ≤ n) (N cP : Nat) (AP : Option Addr) (cI : Nat → Int) (cA : Nat → Option Addr) (cC : Nat → Nat) (gb : Nat) (S : Nat → Prop) (w : World) (hN : N ≤ 1000000)
    (hb : Boxed w gb 53 (.slice AP N cP)) (hbS : ¬ S gb) (hC : ∀ x, x < N → ∃ ad, AP = some ad ∧ ad.block < w.heap.size ∧ ¬ S ad.block ∧ w.cell? (ad.add (x * 2)) = some (.int .i64 (cI x)) ∧ w.cell? ⟨(ad.add (x * 2)).block, (ad.add (x * 2)).off + 1, none⟩ = some (.slice (cA x) 256 (cC x))) :
    SeqStopsK Fence.wide n Try.prog 87 #[.pointer (some ⟨gb, 0, none⟩)] (wenc cI cA cC) (fun X Y => Kept X Y S) (fun zs => zs = down N) (fun pre => ∃ k, k ≤ N ∧ pre = (down N).take k) N w := fun lo J Jx W hW hJ _ hY hJ0 => by
  exact go87 n hn lo N cP AP cI cA cC gb S J Jx w hN hb hbS hC (fun pre x W1 h1 h2 => hY pre x W1 h1 h2) W (Kept.of_below hW S) hJ0
set_option maxRecDepth 100000 in
theorem back_c (w : World) (A : Option Addr) (n c : Nat) : Calls Try.prog 59 #[.slice A n c] w fun e w' => ∃ gb, e = .returned (.func (.func 87) #[] #[.pointer (some ⟨gb, 0, none⟩)]) ∧ Boxed w' gb 53 (.slice A n c) ∧ w.heap.size ≤ gb ∧ Below w.heap.size w w' := by
  have K0 := Aside0.mk ((Below.refl w.heap.size w).alloc (Nat.le_refl _) (.cells #[.slice A n c] 53))
  go_enter Try.func59, Try.ntmps59
  go_wp2_with fail
  go_ret
  exact ⟨w.heap.size, rfl, Boxed.new w 53 _, Nat.le_refl _, K0.out⟩
theorem boxed_own {A B : World} {row : Option Nat} {g t : Nat} {cs : Array Value} {N : Nat} (h : A.heap[g]? = some (.cells cs t (0, 0))) (hg : A.grownBy B row) (hr : ∀ r, row = some r → N ≤ r ∧ ∃ o : Obj, A.heap[r]? = some o ∧ o.isCells = false) : B.heap[g]? = some (.cells cs t (0, 0)) := by
  refine (hg.block g (blk_lt h) (fun e => ?_)).trans h
  obtain ⟨_, o, ho, hc⟩ := hr g e.symm
  rw [h] at ho
  cases ho
  cases hc
theorem below_own {w A B : World} {row : Option Nat} {N : Nat} (h : Below w.heap.size w A) (hg : A.grownBy B row) (hr : ∀ r, row = some r → N ≤ r ∧ ∃ o : Obj, A.heap[r]? = some o ∧ o.isCells = false) (hN : w.heap.size ≤ N) : Below w.heap.size w B := by
  refine h.trans (Below.grown (Below.refl _ _) hg h.size (fun j e => ?_))
  have := (hr j e).1
  omega
theorem keeps_below {W W' : World} (h : Below W.heap.size W W') : KeepsOthers W W' := ⟨h.size, fun k o hk _ => (h.block k (blk_lt hk)).trans hk⟩
theorem hgo_of {A : World} {D : Nat} (h : A.heap[D]? = some (.deferred (some []))) : ∀ r, some D = some r → D ≤ r ∧ ∃ o : Obj, A.heap[r]? = some o ∧ o.isCells = false := fun r e => by
  cases e
  exact ⟨Nat.le_refl _, _, h, rfl⟩
end Go.Proofs.Ythnadkdfgckijaa.Pure
namespace Go.Proofs.Ythnadkdfgckijaa.Pure
open Go.RowKit Go.Proofs.Ythnadkdfgckijaa Go.Proofs.Ythnadkdfgckijaa.PAll Go.Proofs.Ythnadkdfgckijaa.Mem Go.Proofs.YthnadkdfgckijaaW.PrintWords Go.Proofs.YthnadkdfgckijaaW.PrintLast Go.Proofs.YthnadkdfgckijaaW.PrintMore
set_option linter.unusedVariables false
set_option linter.unusedSimpArgs false

/-- What was written last to a block, of what is pending. -/
def lastW (P : List (Int × List Int)) (i : Int) (d : List Int) : List Int := P.foldl (fun acc x => if x.1 = i then x.2 else acc) d
def readS (s : DS) (i : Int) : Int × List Int := if placeS s i ≠ 0 then (placeS s i, []) else (0, lastW s.P i (s.B.getD i.toNat []))
theorem lastW_none (P : List (Int × List Int)) (i : Int) (d : List Int) (h : ∀ x, x < P.length → (P.getD x (0, [])).1 ≠ i) : lastW P i d = d := by
  induction P generalizing d with
  | nil => rfl
  | cons a P ih =>
    unfold lastW
    rw [List.foldl_cons, if_neg (by have := h 0 (by simp); simpa using this)]
    exact ih d (fun x hx => by have := h (x + 1) (by simpa using hx); simpa using this)
theorem lastW_found (P : List (Int × List Int)) (i : Int) (d : List Int) (x : Nat) (hx : x < P.length) (h1 : (P.getD x (0, [])).1 = i) (h2 : ∀ y, x < y → y < P.length → (P.getD y (0, [])).1 ≠ i) : lastW P i d = (P.getD x (0, [])).2 := by
  induction P generalizing d x with
  | nil => simp at hx
  | cons a P ih =>
    unfold lastW
    rw [List.foldl_cons]
    cases x with
    | zero =>
      have h1' : a.1 = i := by simpa using h1
      rw [if_pos h1']
      have := lastW_none P i a.2 (fun y hy => by have := h2 (y + 1) (by omega) (by simpa using hy); simpa using this)
      unfold lastW at this
      rw [this]
      simp
    | succ x =>
      have := ih (d := if a.1 = i then a.2 else d) x (by simpa using hx) (by simpa using h1) (fun y hy hl => by have := h2 (y + 1) (by omega) (by simpa using hl); simpa using this)
      unfold lastW at this
      rw [this]
      simp
theorem down_split {N k x : Nat} {p : List Nat} (h : p ++ [x] = (down N).take k) (hk : k ≤ N) : x < N ∧ ∀ y, x < y → y < N → y ∈ p := by
  have hl : p.length + 1 = k := by have := congrArg List.length h; simp [down_len] at this; omega
  have hx : x + p.length + 1 = N := by
    have := down_take N p.length (N - p.length - 1) (by omega)
    rw [show p.length + 1 = k from hl, ← h] at this
    have := (List.append_inj' this rfl).2
    simp at this
    omega
  have hp : p = (down N).take p.length := by
    have := down_take N p.length x (by omega)
    rw [show p.length + 1 = k from hl, ← h] at this
    exact (List.append_inj' this rfl).1
  refine ⟨by omega, fun y h1 h2 => ?_⟩
  rw [hp]
  have hm : y ∈ (down N).take (N - y) := by
    have := down_take N (N - y - 1) y (by omega)
    rw [show N - y - 1 + 1 = N - y by omega] at this
    rw [this]
    simp
  have hle : N - y ≤ p.length := by omega
  rw [show (down N).take (N - y) = ((down N).take p.length).take (N - y) by rw [List.take_take, Nat.min_eq_left hle]] at hm
  exact List.mem_of_mem_take hm
theorem mem_down {N x : Nat} (h : x < N) : x ∈ down N := by simp [down, h]
theorem three_new (w : World) (o p q : Obj) : (((w.alloc o).alloc p).alloc q).heap[w.heap.size]? = some o ∧ (((w.alloc o).alloc p).alloc q).heap[w.heap.size + 1]? = some p ∧ (((w.alloc o).alloc p).alloc q).heap[w.heap.size + 1 + 1]? = some q := by
  have h3 := heap_new ((w.alloc o).alloc p) q
  have h2 := heap_new (w.alloc o) p
  rw [World.size_alloc] at h2 h3
  rw [World.size_alloc] at h3
  exact ⟨(Below.heap_alloc _ q w.heap.size (by simp; omega)).trans ((Below.heap_alloc _ p w.heap.size (by simp)).trans (heap_new w o)), (Below.heap_alloc _ q _ (by simp)).trans h2, h3⟩
theorem own_nil (w : World) (base : Nat) : Own w base none 0 [] := ⟨Nat.le_refl _, ⟨rfl, by decide, fun h => absurd h (by decide)⟩, fun h => absurd h (by decide)⟩
theorem clone_o {w : World} {A : Option Addr} {c n : Nat} {l : List Int} (hC : Kd.C (Kd.int .u8) w A l.length l) (hn : l.length = n) (hc : n ≤ c) (hl : n ≤ 140737488351232) :
    Calls Try.prog 55 #[.slice A n c] w fun e w' => ∃ Y d, e = .returned (.slice Y n d) ∧ Own w' w.heap.size Y d l ∧ Below w.heap.size w w' := by
  subst hn
  refine (bytes_Clone.calls A c l l w hC hc (by unfold bytes_Clone.f; rw [if_pos (by omega)])).mono ?_
  rintro e w' ⟨v, rfl, ho, hb⟩
  obtain ⟨Y, d, rfl, hO⟩ := own_of ho
  exact ⟨Y, d, rfl, hO, hb⟩
theorem wpIn_np {F : Fence} {n : Nat} {P : Program} {c : Code} {Q : Exit → Act → World → Prop} {a : Act} {w : World} (h : c.wpIn F n P (fun ex a w => match ex with | .normal => Q .normal a w | _ => False) a w) : c.wpIn F n P Q a w :=
  Code.wpIn_mono (fun e a w h => by cases e <;> first | exact h | exact h.elim) h
theorem own_blk {w : World} {base gy yd : Nat} {cur : List Value} {l : List Int} (hl : l.length = 256) (h1 : 256 ≤ yd) (h2 : base ≤ gy) (h3 : w.heap[gy]? = some (.cells (List.toArray cur) 5 (0, 0))) (h4 : cur.take 256 = encs (Value.int .u8) l) : Own w base (some ⟨gy, 0, none⟩) yd l :=
  ⟨by omega, blk_C (enc := Value.int .u8) (h1 := fun _ => rfl) h3 (by rw [List.drop_zero, hl]; exact h4) (by omega), fun _ => ⟨gy, cur, rfl, h2, h3, by rw [hl]; exact h4⟩⟩
/-- What the range holds; and what it leaves where it is left. -/
def RI (w w2 : World) (i : Int) (cI : Nat → Int) (pre : List Nat) (W : World) : Prop :=
  (∀ y ∈ pre, cI y ≠ i) ∧ W.heap[w.heap.size]? = some (.cells #[.int .i64 i] 3 (0, 0)) ∧ W.heap[w.heap.size + 1]? = some (.cells #[.slice none 0 0] 26 (0, 0)) ∧ W.heap[w.heap.size + 1 + 1]? = some (.cells #[.int .i64 0] 30 (0, 0)) ∧ Below w2.heap.size w2 W
def RX (w : World) (i : Int) (cI : Nat → Int) (cB : Nat → List Int) (c : Code) (pre : List Nat) (W : World) : Prop :=
  c = .ret ∧ ∃ (p : List Nat) (x gy : Nat) (cur : List Value) (yd : Nat), pre = p ++ [x] ∧ (∀ y ∈ p, cI y ≠ i) ∧ cI x = i ∧ W.heap[w.heap.size + 1]? = some (.cells #[.slice (some ⟨gy, 0, none⟩) 256 yd] 26 (0, 0)) ∧ W.heap[w.heap.size + 1 + 1]? = some (.cells #[.int .i64 0] 30 (0, 0)) ∧
    256 ≤ yd ∧ w.heap.size ≤ gy ∧ W.heap[gy]? = some (.cells (List.toArray cur) 5 (0, 0)) ∧ cur.take 256 = encs (Value.int .u8) (cB x) ∧ Below w.heap.size w W
theorem read_end {w W W1 : World} {D : Nat} {Y : Option Addr} {yd : Nat} {l : List Int} (hlt : w.heap.size + 1 + 1 + 1 ≤ W.heap.size) (hK : W.heap[D]? = some (.deferred (some []))) (hD : w.heap.size + 1 + 1 + 1 ≤ D) (hW : Below w.heap.size w W) (hO : Own W1 W.drew.heap.size Y yd l) (hb : Below W.drew.heap.size W.drew W1)
    (m2 : W1.heap[w.heap.size + 1]? = some (.cells #[.slice none 0 0] 26 (0, 0))) (m3 : W1.heap[w.heap.size + 1 + 1]? = some (.cells #[.int .i64 0] 30 (0, 0))) (x : Value) :
    (((W1.setCell ⟨w.heap.size + 1, 0, none⟩ x).setCell ⟨w.heap.size + 1 + 1, 0, none⟩ (.int .i64 0)).heap[D]? = some (.deferred (some []))) ∧
    Own ((((W1.setCell ⟨w.heap.size + 1, 0, none⟩ x).setCell ⟨w.heap.size + 1 + 1, 0, none⟩ (.int .i64 0))).putObj D (.deferred none)) w.heap.size Y yd l ∧
    Below w.heap.size w ((((W1.setCell ⟨w.heap.size + 1, 0, none⟩ x).setCell ⟨w.heap.size + 1 + 1, 0, none⟩ (.int .i64 0))).putObj D (.deferred none)) ∧
    ((((W1.setCell ⟨w.heap.size + 1, 0, none⟩ x).setCell ⟨w.heap.size + 1 + 1, 0, none⟩ (.int .i64 0))).putObj D (.deferred none)).cell? ⟨w.heap.size + 1, 0, none⟩ = some x ∧
    ((((W1.setCell ⟨w.heap.size + 1, 0, none⟩ x).setCell ⟨w.heap.size + 1 + 1, 0, none⟩ (.int .i64 0))).putObj D (.deferred none)).cell? ⟨w.heap.size + 1 + 1, 0, none⟩ = some (.int .i64 0) := by
  have hD1 : W1.heap[D]? = some (.deferred (some [])) := (hb.block D (blk_lt hK)).trans hK
  have q2 := blk_set m2 0 x
  have q3 := blk_set ((Below.heap_setCell W1 ⟨w.heap.size + 1, 0, none⟩ x (w.heap.size + 1 + 1) (by simp)).trans m3) 0 (.int .i64 0)
  have q2' := (Below.heap_setCell (W1.setCell ⟨w.heap.size + 1, 0, none⟩ x) ⟨w.heap.size + 1 + 1, 0, none⟩ (.int .i64 0) (w.heap.size + 1) (by simp)).trans q2
  have oth : ∀ k, w.heap.size + 1 + 1 + 1 ≤ k → ((W1.setCell ⟨w.heap.size + 1, 0, none⟩ x).setCell ⟨w.heap.size + 1 + 1, 0, none⟩ (.int .i64 0)).heap[k]? = W1.heap[k]? := fun k hk => (Below.heap_setCell _ ⟨w.heap.size + 1 + 1, 0, none⟩ (.int .i64 0) k (by show k ≠ w.heap.size + 1 + 1; omega)).trans (Below.heap_setCell W1 ⟨w.heap.size + 1, 0, none⟩ x k (by show k ≠ w.heap.size + 1; omega))
  obtain ⟨Z, hZ⟩ : ∃ Z, Z = (W1.setCell ⟨w.heap.size + 1, 0, none⟩ x).setCell ⟨w.heap.size + 1 + 1, 0, none⟩ (.int .i64 0) := ⟨_, rfl⟩
  have kb : Below w.heap.size w Z := by
    rw [hZ]
    exact ((hW.drew.trans (Below.mono hb (show w.heap.size ≤ W.drew.heap.size by show _ ≤ W.heap.size; omega))).setCell (p := ⟨w.heap.size + 1, 0, none⟩) (by show _ ≤ w.heap.size + 1; omega) _).setCell (p := ⟨w.heap.size + 1 + 1, 0, none⟩) (by show _ ≤ w.heap.size + 1 + 1; omega) _
  rw [← hZ] at q2' q3 oth ⊢
  have hDZ : Z.heap[D]? = some (.deferred (some [])) := (oth D hD).trans hD1
  have hgo := hgo_of hDZ
  have e2 := boxed_own q2' (grownBy_putObj' _ D (.deferred none)) hgo
  have e3 := boxed_own q3 (grownBy_putObj' _ D (.deferred none)) hgo
  have oZ : Own Z w.heap.size Y yd l := own_lower (own_kept hO (fun k hp hA => oth k (Nat.le_trans hlt (own_lt hO k hp hA).1))) (show w.heap.size ≤ W.heap.size by omega)
  refine ⟨hDZ, own_kept oZ (fun k hp hA => ?_), below_own kb (grownBy_putObj' _ D (.deferred none)) hgo (by omega), ?_, ?_⟩
  · obtain ⟨gk, cur, a1, a2, a3, a4⟩ := oZ.blk hp
    rw [a1] at hA
    injection hA with hA
    injection hA with hA
    subst hA
    rw [a3]
    exact boxed_own a3 (grownBy_putObj' _ D (.deferred none)) hgo
  · rw [blk_cell e2]; simp
  · rw [blk_cell e3]; simp
set_option maxRecDepth 100000 in
set_option maxHeartbeats 16000000 in
theorem dk_read {w : World} {g : Nat} {U : Nat → Prop} {s : DS} (h : DK w g U s) (i : Int) (hPl : s.P.length ≤ 1000000) :
    Calls Try.prog 19 #[.pointer (some ⟨g, 0, none⟩), .int .i64 i] w fun e w' => ∃ Y yd, e = .returned (.tuple #[.slice Y (readS s i).2.length yd, .int .i64 (readS s i).1]) ∧ Own w' w.heap.size Y yd (readS s i).2 ∧ Below w.heap.size w w' := by
  have PL := Aside0.mk hPl
  obtain ⟨rs, hrs⟩ : ∃ r, r = readS s i := ⟨_, rfl⟩
  rw [← hrs]
  unfold readS at hrs
  obtain ⟨dB, hdB⟩ : ∃ x, x = s.B.getD i.toNat [] := ⟨_, rfl⟩
  rw [← hdB] at hrs
  have DB := Aside0.mk hdB
  clear hdB
  have RS := Aside0.mk hrs
  clear hrs
  obtain ⟨n1, n2, n3⟩ := three_new w (.cells #[.int .i64 i] 3) (.cells #[.slice none 0 0] 26) (.cells #[.int .i64 0] 30)
  have hb0 := (((Below.refl w.heap.size w).alloc (Nat.le_refl _) (.cells #[.int .i64 i] 3)).alloc (by simp) (.cells #[.slice none 0 0] 26)).alloc (by simp; omega) (.cells #[.int .i64 0] 30)
  have hs0 : (((w.alloc (.cells #[.int .i64 i] 3)).alloc (.cells #[.slice none 0 0] 26)).alloc (.cells #[.int .i64 0] 30)).heap.size = w.heap.size + 1 + 1 + 1 := by simp
  obtain ⟨w0, hw0⟩ : ∃ x, x = ((w.alloc (.cells #[.int .i64 i] 3)).alloc (.cells #[.slice none 0 0] 26)).alloc (.cells #[.int .i64 0] 30) := ⟨_, rfl⟩
  rw [← hw0] at n1 n2 n3 hb0 hs0
  have D0 := Aside0.mk (h.below hb0)
  have N1 := Aside0.mk n1
  have N2 := Aside0.mk n2
  have N3 := Aside0.mk n3
  have K0 := Aside0.mk hb0
  have S0 := Aside0.mk hs0
  have W0 := Aside0.mk hw0
  clear h hPl n1 n2 n3 hb0 hs0 hw0
  refine (callsIn_wide (n := 4)).1 ?_
  refine callsIn_of_wp_marks Try.func19 rfl trivial ?_ rfl
  simp only [Try.ntmps19, List.size_toArray, List.length_cons, List.length_nil, Nat.reduceAdd, Nat.reduceSub, Array.replicate_succ, Array.replicate_zero, List.push_toArray, List.append_toArray, List.nil_append, List.cons_append]
  obtain ⟨x0, hx0⟩ : ∃ x : Value, x = .int .i64 i := ⟨_, rfl⟩
  gi_wp2_with fail
  rw [← W0.out]
  refine ⟨trivial, ((callsIn_wide (n := 4 - 1)).2 (dk_place D0.out i)).mono ?_⟩
  rintro e w1 ⟨rfl, hb⟩
  have D1 := Aside0.mk (D0.out.below hb)
  have G1 := Aside0.mk ((hb.block _ (blk_lt N1.out)).trans N1.out)
  have G2 := Aside0.mk ((hb.block _ (blk_lt N2.out)).trans N2.out)
  have G3 := Aside0.mk ((hb.block _ (blk_lt N3.out)).trans N3.out)
  have K1 := Aside0.mk (K0.out.trans (hb.mono K0.out.size))
  have S1 := Aside0.mk (show w.heap.size + 1 + 1 + 1 ≤ w1.heap.size from by rw [← S0.out]; exact hb.size)
  clear hb N1 N2 N3 K0 S0 W0 D0 hx0
  have hrs := RS.out
  by_cases hp : placeS s i = 0
  case neg =>
    rw [if_pos hp] at hrs
    obtain ⟨r, hr⟩ : ∃ r, r = placeS s i := ⟨_, rfl⟩
    rw [← hr] at hp hrs ⊢
    subst hrs
    have e1 : (r == 0) = false := by simpa using hp
    have e2 : (r != 0) = true := by simpa using hp
    have f2 := blk_frozen G2.out 0
    have f3 := blk_frozen G3.out 0
    have c2 : w1.cell? ⟨w.heap.size + 1, 0, none⟩ = some (.slice none 0 0) := by rw [blk_cell G2.out]; rfl
    have c3 : w1.cell? ⟨w.heap.size + 1 + 1, 0, none⟩ = some (.int .i64 0) := by rw [blk_cell G3.out]; rfl
    clear hp hr RS
    gi_wp2_with fail
    have q2 := (blk_set G2.out 0 (.slice none 0 0))
    have q3 := (blk_set ((Below.heap_setCell w1 ⟨w.heap.size + 1, 0, none⟩ (.slice none 0 0) (w.heap.size + 1 + 1) (by simp)).trans G3.out) 0 (.int .i64 r))
    have q2' := (Below.heap_setCell (w1.setCell ⟨w.heap.size + 1, 0, none⟩ (.slice none 0 0)) ⟨w.heap.size + 1 + 1, 0, none⟩ (.int .i64 r) (w.heap.size + 1) (by simp)).trans q2
    have e4 : ((w1.setCell ⟨w.heap.size + 1, 0, none⟩ (.slice none 0 0)).setCell ⟨w.heap.size + 1 + 1, 0, none⟩ (.int .i64 r)).cell? ⟨w.heap.size + 1, 0, none⟩ = some (.slice none 0 0) := by rw [blk_cell q2']; rfl
    have e5 : ((w1.setCell ⟨w.heap.size + 1, 0, none⟩ (.slice none 0 0)).setCell ⟨w.heap.size + 1 + 1, 0, none⟩ (.int .i64 r)).cell? ⟨w.heap.size + 1 + 1, 0, none⟩ = some (.int .i64 r) := by rw [blk_cell q3]; rfl
    refine ⟨.tuple #[.slice none 0 0, .int .i64 r], ?_, ⟨none, 0, rfl, own_nil _ _, (K1.out.setCell (p := ⟨w.heap.size + 1, 0, none⟩) (by show _ ≤ w.heap.size + 1; omega) _).setCell (p := ⟨w.heap.size + 1 + 1, 0, none⟩) (by show _ ≤ w.heap.size + 1 + 1; omega) _⟩⟩
    simp [results, Try.f19, go_sem, e4, e5]
  rw [if_neg (by simpa using hp)] at hrs
  rw [hp]
  subst hrs
  obtain ⟨lt, ug, pen, pos, A, Ak, c, ck, vP, FB, FW, FK, h1, h2, h3, h4, h5, h6, h7, h8⟩ := D1.out
  obtain ⟨AP, cP, hvP, hcP, hPF⟩ := R_own h3
  subst hvP
  obtain ⟨z0, z1, z2, z3, z4, z5⟩ := dk_cells h1
  have IP := Aside0.mk (placeS_ok hp)
  obtain ⟨N, hN⟩ : ∃ N, N = s.P.length := ⟨_, rfl⟩
  have hall : ∀ x, ∃ f : Option Addr × Nat, x < N → ∃ ad, AP = some ad ∧ w1.cell? (ad.add (x * 2)) = some (.int .i64 (s.P.getD x (0, [])).1) ∧ w1.cell? ⟨(ad.add (x * 2)).block, (ad.add (x * 2)).off + 1, none⟩ = some (.slice f.1 256 f.2) ∧ 256 ≤ f.2 ∧ Kd.F (Kd.int .u8) w1 FW f.1 256 (s.P.getD x (0, [])).2 ∧ (s.P.getD x (0, [])).2.length = 256 ∧ FW ad.block := by
    intro x
    by_cases hx : x < N
    · have hx' : x < s.P.length := hN ▸ hx
      obtain ⟨ad, Ab, cb, a1, a2, a3, a4, a5⟩ := pen_at hPF hx'
      have hl := (pen _ (List.getElem_mem hx')).2.2.1
      have e : s.P.getD x (0, []) = s.P[x] := by rw [List.getD_eq_getElem?_getD, List.getElem?_eq_getElem hx']; rfl
      rw [hl] at a3 a4 a5
      obtain ⟨ad', cs', b1, b2, b3, b4, b5⟩ := Kd.F_get hPF (0, []) (x : Int) (by omega) (by omega)
      rw [a1] at b1
      injection b1 with b1
      subst b1
      exact ⟨(Ab, cb), fun _ => ⟨ad, a1, by rw [e]; exact a2, a3, a4, by rw [e]; exact a5, by rw [e]; exact hl, b5 (by decide)⟩⟩
    · exact ⟨(none, 0), fun h => absurd h hx⟩
  obtain ⟨f, hf⟩ := Classical.axiomOfChoice hall
  obtain ⟨ix, hix⟩ : ∃ ix : Nat → Nat, ix = fun x => if x < N then x else 0 := ⟨_, rfl⟩
  have hix1 : ∀ x, 0 < N → ix x < N := fun x h => by rw [hix]; show (if x < N then x else 0) < N; split <;> omega
  have hix2 : ∀ x, x < N → ix x = x := fun x h => by rw [hix]; exact if_pos h
  obtain ⟨cI, hcI⟩ : ∃ cI : Nat → Int, cI = fun x => (s.P.getD (ix x) (0, [])).1 := ⟨_, rfl⟩
  obtain ⟨cB, hcB⟩ : ∃ cB : Nat → List Int, cB = fun x => (s.P.getD (ix x) (0, [])).2 := ⟨_, rfl⟩
  obtain ⟨cA, hcA⟩ : ∃ cA : Nat → Option Addr, cA = fun x => (f (ix x)).1 := ⟨_, rfl⟩
  obtain ⟨cC, hcC⟩ : ∃ cC : Nat → Nat, cC = fun x => (f (ix x)).2 := ⟨_, rfl⟩
  have ROW := Aside0.mk (show 0 < N → ∀ x, 256 ≤ cC x ∧ Kd.F (Kd.int .u8) w1 FW (cA x) 256 (cB x) ∧ (cB x).length = 256 from fun h x => by
    obtain ⟨ad, a1, a2, a3, a4, a5, a6, a7⟩ := hf (ix x) (hix1 x h)
    rw [hcC, hcA, hcB]
    exact ⟨a4, a5, a6⟩)
  have CEL := Aside0.mk (show ∀ x, x < N → ∃ ad, AP = some ad ∧ FW ad.block ∧ w1.cell? (ad.add (x * 2)) = some (.int .i64 (cI x)) ∧ w1.cell? ⟨(ad.add (x * 2)).block, (ad.add (x * 2)).off + 1, none⟩ = some (.slice (cA x) 256 (cC x)) from fun x h => by
    obtain ⟨ad, a1, a2, a3, a4, a5, a6, a7⟩ := hf x h
    rw [hcI, hcA, hcC]
    simp only [hix2 x h]
    exact ⟨ad, a1, a7, a2, a3⟩)
  have CI := Aside0.mk (show ∀ x, x < N → cI x = (s.P.getD x (0, [])).1 ∧ cB x = (s.P.getD x (0, [])).2 from fun x h => by rw [hcI, hcB]; simp only [hix2 x h]; exact ⟨trivial, trivial⟩)
  have FL := Aside0.mk (show ∀ k, FW k → k < w1.heap.size from fun k q => lt k (h7 k q).1)
  have GA := Aside0.mk h1
  have RA := Aside0.mk h2
  have BL := Aside0.mk (show ∀ k, FB k → k < w1.heap.size from fun k q => lt k (h6 k q).1)
  have NP := Aside0.mk hN
  clear hall hf hix1 hix2 hcI hcB hcA hcC hix lt ug pen pos h1 h2 h3 h4 h5 h6 h7 h8 hPF hp D1 RS hN
  gi_wp2_with fail
  rw [← NP.out]
  refine ⟨trivial, ((callsIn_wide (n := 4 - 1)).2 (back_c _ _ _ _)).mono ?_⟩
  rintro e w2 ⟨gb, rfl, hbx, hgb, hb⟩
  have B2 := Aside0.mk hb
  have BX := Aside0.mk hbx
  have GB := Aside0.mk hgb
  replace G1 := Aside0.mk ((hb.block _ (blk_lt G1.out)).trans G1.out)
  replace G2 := Aside0.mk ((hb.block _ (blk_lt G2.out)).trans G2.out)
  replace G3 := Aside0.mk ((hb.block _ (blk_lt G3.out)).trans G3.out)
  have K2 := Aside0.mk (K1.out.trans (hb.mono K1.out.size))
  clear hb hbx hgb z0 z1 z2 z3 z4 z5 K1
  gi_wp2_with fail
  have LT := Aside0.mk (show w.heap.size + 1 + 1 + 1 ≤ w2.heap.size from Nat.le_trans S1.out B2.out.size)
  have HST := Aside0.mk (go87_stops 3 (by omega) N cP AP cI cA cC gb (fun q => w2.heap.size ≤ q) w2 (by rw [NP.out]; exact PL.out) BX.out (Nat.not_le.2 BX.out.lt) (fun x hx => by
    obtain ⟨ad, a1, a2, a3, a4⟩ := CEL.out x hx
    have hlt := FL.out _ a2
    have hbk := B2.out.block ad.block hlt
    refine ⟨ad, a1, Nat.lt_of_lt_of_le hlt B2.out.size, Nat.not_le.2 (Nat.lt_of_lt_of_le hlt B2.out.size), (World.cell?_of_block (by rw [add_block]; exact hbk)).trans a3, (World.cell?_of_block (by show w2.heap[(ad.add (x * 2)).block]? = _; rw [add_block]; exact hbk)).trans a4⟩))
  refine wpIn_rangeFunc_ownH rfl (by omega) (gf := 87) (lb := #[.pointer (some ⟨gb, 0, none⟩)]) rfl trivial (enters_of Try.func87 (by kernel_rfl) rfl) HST.out
    (fun h k => h.then_ k (fun _ h => .inl h)) (fun W l o o' hl ho _ _ => Kept.of_grown (grownBy_putObj' W l o') (Kept.refl W _) (fun q e => by cases e; exact .inl hl)) (Below.refl _ _) (fun _ => rfl)
    (RI w w2 i cI) (RX w i cI cB) ?own ?ownx ?start
    (fun x a' W' => ∃ g8, a' = { tmps := #[.pointer (some ⟨g, 0, none⟩), .int .i64 i, undef, .pointer (some ⟨w.heap.size, 0, none⟩), .pointer (some ⟨w.heap.size + 1, 0, none⟩), .pointer (some ⟨w.heap.size + 1 + 1, 0, none⟩), .int .i64 0, undef, .pointer (some ⟨g8, 0, none⟩), .pointer (some ⟨g, 0, none⟩), .int .i64 i, .int .i64 0, .int .i64 0, .bool false, undef, .pointer (some ⟨g, 0, none⟩), .pointer (some ⟨g, 0, none⟩), .pointer (some ⟨g, 1, none⟩), .slice AP N cP, .func (.func 87) #[] #[.pointer (some ⟨gb, 0, none⟩)], .int .i64 (x : Int), .agg #[.int .i64 (cI x), .slice (cA x) 256 (cC x)], undef, undef, undef, undef, undef, undef, undef, undef, undef, undef, undef, undef, undef, undef, undef], defers := [] } ∧ W'.heap[g8]? = some (.cells #[.int .i64 (cI x), .slice (cA x) 256 (cC x)] 101 (0, 0)) ∧ w2.heap.size ≤ g8) ?owna ?assign ?body ?done ?stop
  case own =>
    rintro p X Y row ⟨h0, h1, h2, h3, h4⟩ hg hr
    exact ⟨h0, boxed_own h1 hg hr, boxed_own h2 hg hr, boxed_own h3 hg hr, below_own h4 hg hr (Nat.le_refl _)⟩
  case ownx =>
    rintro c p X Y row ⟨hc, q, x, gy, cur, yd, h1, h2, h3, h4, h5, h6, h7, h8, h9, h10⟩ hg hr
    exact ⟨hc, q, x, gy, cur, yd, h1, h2, h3, boxed_own h4 hg hr, boxed_own h5 hg hr, h6, h7, boxed_own h8 hg hr, h9, below_own h10 hg hr K2.out.size⟩
  case start => exact ⟨(fun y hy => by cases hy), G1.out, G2.out, G3.out, Below.refl _ _⟩
  case owna =>
    rintro x a' _ X Y row ⟨g8, e, h1, h2⟩ hg hr
    exact ⟨g8, e, boxed_own h1 hg hr, h2⟩
  case assign =>
    rintro l pre x W K ⟨h0, h1, h2, h3, h4⟩ hK
    have hbn := (Below.refl W.heap.size W).alloc (Nat.le_refl _) (.cells #[.int .i64 (cI x), .slice (cA x) 256 (cC x)] 101)
    have HKA := Aside0.mk (hK { tmps := #[.pointer (some ⟨g, 0, none⟩), .int .i64 i, undef, .pointer (some ⟨w.heap.size, 0, none⟩), .pointer (some ⟨w.heap.size + 1, 0, none⟩), .pointer (some ⟨w.heap.size + 1 + 1, 0, none⟩), .int .i64 0, undef, .pointer (some ⟨W.heap.size, 0, none⟩), .pointer (some ⟨g, 0, none⟩), .int .i64 i, .int .i64 0, .int .i64 0, .bool false, undef, .pointer (some ⟨g, 0, none⟩), .pointer (some ⟨g, 0, none⟩), .pointer (some ⟨g, 1, none⟩), .slice AP N cP, .func (.func 87) #[] #[.pointer (some ⟨gb, 0, none⟩)], .int .i64 (x : Int), .agg #[.int .i64 (cI x), .slice (cA x) 256 (cC x)], undef, undef, undef, undef, undef, undef, undef, undef, undef, undef, undef, undef, undef, undef, undef], defers := [] } _ ((keeps_below hbn).from _) (Kept.of_below hbn _) ⟨h0, (hbn.block _ (blk_lt h1)).trans h1, (hbn.block _ (blk_lt h2)).trans h2, (hbn.block _ (blk_lt h3)).trans h3, h4.trans (hbn.mono h4.size)⟩ ⟨W.heap.size, rfl, heap_new W _, h4.size⟩)
    clear hK h0 h1 h2 h3 h4 hbn
    gi_wp2_with ((rw [Oper.semAt_eq _ _ _ (fun c h => by cases h)]; go_simp; try go_bits))
    exact HKA.out
  case body =>
    rintro l pre x a' W hl hrec ⟨h0, h1, h2, h3, h4⟩ ⟨g8, rfl, h8, h9⟩ hlen
    have H0 := Aside0.mk h0
    have H1 := Aside0.mk h1
    have H2 := Aside0.mk h2
    have H3 := Aside0.mk h3
    have H4 := Aside0.mk h4
    have H8 := Aside0.mk h8
    have NZ := Aside0.mk (show 0 < N from Nat.lt_of_le_of_lt (Nat.zero_le _) hlen)
    have c3 : W.cell? ⟨w.heap.size, 0, none⟩ = some (.int .i64 i) := by rw [blk_cell h1]; rfl
    obtain ⟨y0, y1⟩ := two_cells h8
    clear h0 h1 h2 h3 h4 h8 hlen hrec
    by_cases hx : cI x = i
    case neg =>
      have e1 : (cI x == i) = false := by simpa using hx
      have HX := Aside0.mk hx
      clear hx
      gi_wp2_with ((rw [Oper.semAt_eq _ _ _ (fun c h => by cases h)]; go_simp; try go_bits))
      refine ⟨KeepsFrom.refl _ _, Kept.refl _ _, fun y hy => ?_, H1.out, H2.out, H3.out, H4.out⟩
      rcases List.mem_append.1 hy with q | q
      · exact H0.out y q
      · rw [List.mem_singleton.1 q]
        exact HX.out
    have e1 : (cI x == i) = true := by simpa using hx
    have HX := Aside0.mk hx
    clear hx
    obtain ⟨r1, r2, r3⟩ := ROW.out NZ.out x
    have RC := Aside0.mk (show Kd.C (Kd.int .u8) W (cA x) (cB x).length (cB x) from by rw [r3]; exact Kd.F_now (Kd.F_below (Kd.F_below r2 B2.out) (H4.out.mono (Nat.le_refl _))))
    have R3 := Aside0.mk r3
    have R1 := Aside0.mk r1
    clear r1 r2 r3
    gi_wp2_with ((rw [Oper.semAt_eq _ _ _ (fun c h => by cases h)]; go_simp; try go_bits))
    refine ⟨trivial, CallsIn.inRound l (((callsIn_wide).2 (clone_o RC.out R3.out R1.out (by decide))).mono ?_)⟩
    rintro e W1 ⟨Y, yd, rfl, hO, hb1⟩
    obtain ⟨gy, cur, hYe, hgy, hcur, htk⟩ := hO.blk (by rw [R3.out]; decide)
    subst hYe
    rw [R3.out] at htk
    have hcap := hO.cap
    rw [R3.out] at hcap
    have YO := Aside0.mk (And.intro hcap (And.intro hgy (And.intro hcur htk)))
    have BB := Aside0.mk hb1
    have M2 := Aside0.mk ((hb1.block _ (blk_lt H2.out)).trans H2.out)
    have M3 := Aside0.mk ((hb1.block _ (blk_lt H3.out)).trans H3.out)
    have f2 := blk_frozen M2.out 0
    have f3 := blk_frozen M3.out 0
    have c4 : W1.cell? ⟨w.heap.size + 1, 0, none⟩ = some (.slice none 0 0) := by rw [blk_cell M2.out]; rfl
    have c5 : W1.cell? ⟨w.heap.size + 1 + 1, 0, none⟩ = some (.int .i64 0) := by rw [blk_cell M3.out]; rfl
    clear hO hgy hcur htk hcap hb1 y0 y1 c3
    gi_wp2_with ((rw [Oper.semAt_eq _ _ _ (fun c h => by cases h)]; go_simp; try go_bits))
    have q2 := blk_set M2.out 0 (.slice (some ⟨gy, 0, none⟩) 256 yd)
    have q3 := blk_set ((Below.heap_setCell W1 ⟨w.heap.size + 1, 0, none⟩ (.slice (some ⟨gy, 0, none⟩) 256 yd) (w.heap.size + 1 + 1) (by simp)).trans M3.out) 0 (.int .i64 0)
    have q2' := (Below.heap_setCell (W1.setCell ⟨w.heap.size + 1, 0, none⟩ (.slice (some ⟨gy, 0, none⟩) 256 yd)) ⟨w.heap.size + 1 + 1, 0, none⟩ (.int .i64 0) (w.heap.size + 1) (by simp)).trans q2
    obtain ⟨o1, o2, o3, o4⟩ := YO.out
    have hgW : w.heap.size + 1 + 1 + 1 ≤ gy := Nat.le_trans LT.out (Nat.le_trans H4.out.size o2)
    have q4 := (Below.heap_setCell (W1.setCell ⟨w.heap.size + 1, 0, none⟩ (.slice (some ⟨gy, 0, none⟩) 256 yd)) ⟨w.heap.size + 1 + 1, 0, none⟩ (.int .i64 0) gy (by show gy ≠ w.heap.size + 1 + 1; omega)).trans ((Below.heap_setCell W1 ⟨w.heap.size + 1, 0, none⟩ (.slice (some ⟨gy, 0, none⟩) 256 yd) gy (by show gy ≠ w.heap.size + 1; omega)).trans o3)
    refine ⟨((keeps_below BB.out).trans ((KeepsOthers.setCell _ _ _).trans (KeepsOthers.setCell _ _ _))).from _, rfl, pre, x, gy, cur, yd, rfl, H0.out, HX.out, ?_, ?_, o1, by omega, q4, o4, ?_⟩
    · simpa using q2'
    · simpa using q3
    · exact (((K2.out.trans (H4.out.mono K2.out.size)).trans (BB.out.mono (Nat.le_trans K2.out.size H4.out.size))).setCell (p := ⟨w.heap.size + 1, 0, none⟩) (by show _ ≤ w.heap.size + 1; omega) _).setCell (p := ⟨w.heap.size + 1 + 1, 0, none⟩) (by show _ ≤ w.heap.size + 1 + 1; omega) _
  case done =>
    rintro D xs W hD rfl ⟨h0, h1, h2, h3, h4⟩ hK
    have hno : lastW s.P i dB = dB := lastW_none _ _ _ (fun x hx => by
      have hxN : x < N := by rw [NP.out]; exact hx
      rw [← (CI.out x hxN).1]
      exact h0 x (mem_down hxN))
    have H1 := Aside0.mk h1
    have H2 := Aside0.mk h2
    have H3 := Aside0.mk h3
    have H4 := Aside0.mk h4
    have HKK := Aside0.mk hK
    have HDD := Aside0.mk hD
    have NO := Aside0.mk hno
    have GW := Aside0.mk ((h4.block _ (Nat.lt_of_lt_of_le (blk_lt GA.out) B2.out.size)).trans ((B2.out.block _ (blk_lt GA.out)).trans GA.out))
    have RW := Aside0.mk ((RA.out.below B2.out).below (h4.mono (Nat.le_refl _)))
    clear h0 h1 h2 h3 h4 hK hD hno
    obtain ⟨ok, gB, gs, cs, cur, hAe, q2, q3, q4, q5, q6⟩ := RW.out
    subst hAe
    obtain ⟨t1, t2, t3, t4, bc, t5, t6⟩ := q5 i.toNat (by have := IP.out; omega)
    rw [← DB.out] at t6
    obtain ⟨I, hI⟩ : ∃ I, I = i.toNat := ⟨_, rfl⟩
    rw [← hI] at t1 t2 t3 t4 t5
    have hiI : i = (I : Int) := by have := IP.out; omega
    have IL := Aside0.mk (show I < s.B.length by have := IP.out; omega)
    have LD := Aside0.mk (show dB.length = 256 from by rw [DB.out]; exact (getD_ok ok (by have := IP.out; omega)).1)
    have OC := Aside0.mk (show Kd.C (Kd.int .u8) W.drew (some ⟨gs I, 0, none⟩) dB.length dB from blk_C (enc := Value.int .u8) (h1 := fun _ => rfl) (show W.drew.heap[gs I]? = _ from t5) (by rw [List.drop_zero, LD.out]; exact t6) (by rw [LD.out]; decide))
    have TC := Aside0.mk t2
    obtain ⟨z0, z1, z2, z3, z4, z5⟩ := dk_cells GW.out
    have c3 : W.cell? ⟨w.heap.size, 0, none⟩ = some (.int .i64 i) := by rw [blk_cell H1.out]; rfl
    have cB1 : W.cell? ⟨gB, I, none⟩ = some (.slice (some ⟨gs I, 0, none⟩) 256 (cs I)) := by rw [blk_cell q4]; simpa using t1
    subst hiI
    have hIL := IL.out
    have f2 := blk_frozen H2.out 0
    have f3 := blk_frozen H3.out 0
    clear ok q2 q3 q4 q5 q6 t1 t2 t3 t4 t5 t6 hI z1 z2 z3 z4 z5
    gi_wp2_with fail
    refine wpIn_np ?_
    gi_region_with (first | (refine ⟨trivial, ?_⟩; gi_at_call 55; refine ((callsIn_wide).2 (clone_o OC.out LD.out TC.out (by decide))).mono ?_; rintro e W1 ⟨Y, yd, rfl, hO, hb1⟩; have YO := Aside0.mk hO; have BB := Aside0.mk hb1; have M2 := Aside0.mk ((hb1.block _ (blk_lt H2.out)).trans H2.out); have M3 := Aside0.mk ((hb1.block _ (blk_lt H3.out)).trans H3.out); clear hO hb1 z0 c3 cB1 f2 f3; have f2 := blk_frozen M2.out 0; have f3 := blk_frozen M3.out 0; have c4 : W1.cell? ⟨w.heap.size + 1, 0, none⟩ = some (.slice none 0 0) := (by rw [blk_cell M2.out]; rfl); have c5 : W1.cell? ⟨w.heap.size + 1 + 1, 0, none⟩ = some (.int .i64 0) := (by rw [blk_cell M3.out]; rfl)))
    all_goals (show Exit.then _ _ _ _ _)
    all_goals (gi_wp2_with fail)
    all_goals
      obtain ⟨y1, y2, y3, y4, y5⟩ := read_end (w := w) (W := W) (Nat.le_trans LT.out H4.out.size) HKK.out (Nat.le_trans LT.out HDD.out) (K2.out.trans (H4.out.mono K2.out.size)) YO.out BB.out M2.out M3.out (.slice Y 256 yd)
      refine ⟨by simp, .inl ⟨_, _, rfl, run_takeDeferred y1, ?_⟩⟩
      refine ⟨.tuple #[.slice Y 256 yd, .int .i64 0], ?_, ⟨Y, yd, by rw [NO.out, LD.out], by rw [NO.out]; exact y2, y3⟩⟩
      clear y1 y2 y3
      simp [results, Try.f19, go_sem, y4, y5]
  case stop =>
    rintro D c pre W hD ⟨k, hk, rfl⟩ ⟨rfl, p, x, gy, cur, yd, hpx, hp, hx, b2, b3, o1, o2, o3, o4, kb⟩ hK
    obtain ⟨hxN, hall⟩ := down_split hpx.symm hk
    have hval : lastW s.P i dB = cB x := by
      rw [(CI.out x hxN).2]
      refine lastW_found _ _ _ x (by rw [← NP.out]; exact hxN) (by rw [← (CI.out x hxN).1]; exact hx) (fun y hy hyl => ?_)
      have hyN : y < N := by rw [NP.out]; exact hyl
      rw [← (CI.out y hyN).1]
      exact hp y (hall y hy hyN)
    have hlen : (cB x).length = 256 := (ROW.out (by omega) x).2.2
    have hgo := hgo_of hK
    have e2 := boxed_own b2 (grownBy_putObj' _ D (.deferred none)) hgo
    have e3 := boxed_own b3 (grownBy_putObj' _ D (.deferred none)) hgo
    have eo := boxed_own o3 (grownBy_putObj' _ D (.deferred none)) hgo
    have kb2 := below_own kb (grownBy_putObj' _ D (.deferred none)) hgo (Nat.le_trans K2.out.size hD)
    have c2 : (W.putObj D (.deferred none)).cell? ⟨w.heap.size + 1, 0, none⟩ = some (.slice (some ⟨gy, 0, none⟩) 256 yd) := by rw [blk_cell e2]; rfl
    have c3 : (W.putObj D (.deferred none)).cell? ⟨w.heap.size + 1 + 1, 0, none⟩ = some (.int .i64 0) := by rw [blk_cell e3]; rfl
    have VV := Aside0.mk (And.intro hval hlen)
    have OB := Aside0.mk (own_blk hlen o1 o2 eo o4)
    clear hpx hp hx b2 b3 o1 o2 o3 o4 kb hxN hall hval hlen hgo e2 e3 eo
    gi_wp2_with fail
    refine ⟨by simp, .inl ⟨_, _, rfl, run_takeDeferred hK, ?_⟩⟩
    refine ⟨.tuple #[.slice (some ⟨gy, 0, none⟩) 256 yd, .int .i64 0], ?_, ⟨some ⟨gy, 0, none⟩, yd, by rw [VV.out.1, VV.out.2], by rw [VV.out.1]; exact OB.out, kb2⟩⟩
    simp [results, Try.f19, go_sem, c2, c3]
end Go.Proofs.Ythnadkdfgckijaa.Pure
namespace Go.Proofs.Ythnadkdfgckijaa.Pure
open Go.RowKit Go.Proofs.Ythnadkdfgckijaa Go.Proofs.Ythnadkdfgckijaa.PAll Go.Proofs.Ythnadkdfgckijaa.Mem Go.Proofs.YthnadkdfgckijaaW.PrintWords Go.Proofs.YthnadkdfgckijaaW.PrintLast Go.Proofs.YthnadkdfgckijaaW.PrintMore
set_option linter.unusedVariables false
set_option linter.unusedSimpArgs false
set_option linter.unusedSectionVars false

/-- Where a row lies. -/
def OwnF (A : Option Addr) (l : List Int) (k : Nat) : Prop := 0 < l.length ∧ A = some ⟨k, 0, none⟩
theorem own_F {w : World} {base c : Nat} {A : Option Addr} {l : List Int} (h : Own w base A c l) : Kd.F (Kd.int .u8) w (OwnF A l) A l.length l := fun W' hW =>
  (own_kept h (fun g hp hA => hW g ⟨hp, hA⟩ (own_lt h g hp hA).2)).C
theorem ownF_lt {w : World} {base c : Nat} {A : Option Addr} {l : List Int} (h : Own w base A c l) : ∀ k, OwnF A l k → base ≤ k ∧ k < w.heap.size := fun k q => own_lt h k q.1 q.2
theorem blk_F {w : World} {g : Nat} {l : List Int} (h : w.heap[g]? = some (.cells (encs (Value.int .u8) l).toArray 5 (0, 0))) (hn : l.length = l.length) (hm : l.length ≤ 9223372036854775807) : Kd.F (Kd.int .u8) w (· = g) (some ⟨g, 0, none⟩) l.length l := fun W' hW =>
  blk_C (enc := Value.int .u8) (h1 := fun _ => rfl) ((hW g rfl (blk_lt h)).trans h) (by rw [List.drop_zero]; exact List.take_of_length_le (by simp [encs])) hm
/-- A disk that lies within V. -/
def Dk (w : World) (g : Nat) (s : DS) (V : Nat → Prop) : Prop := ∃ U : Nat → Prop, DK w g U s ∧ ∀ k, U k → V k
theorem Dk.below {w w' : World} {g : Nat} {s : DS} {V : Nat → Prop} (h : Dk w g s V) (hb : Below w.heap.size w w') : Dk w' g s V := by
  obtain ⟨U, hU, h0⟩ := h
  exact ⟨U, hU.below hb, h0⟩
theorem Dk.fr {w w' : World} {g : Nat} {s : DS} {V F : Nat → Prop} (h : Dk w g s V) (hb : Fr F w w') (hn : ∀ k, V k → ¬ F k) : Dk w' g s V := by
  obtain ⟨U, hU, h0⟩ := h
  exact ⟨U, hU.fr hb (fun k q => hn k (h0 k q)), h0⟩
theorem Dk.mono {w : World} {g : Nat} {s : DS} {V V' : Nat → Prop} (h : Dk w g s V) (hV : ∀ k, V k → k < w.heap.size → V' k) : Dk w g s V' := by
  obtain ⟨U, hU, h0⟩ := h
  exact ⟨U, hU, fun k q => hV k (h0 k q) (hU.lt k q)⟩
section
variable {w w1 : World} {g : Nat} {s : DS} {V : Nat → Prop}
/-- What a write of a new row does to a disk. -/
theorem n_write (h : Dk w g s V) (hb : Below w.heap.size w w1) (hV : ∀ k, w.heap.size ≤ k → V k) (i : Int) {n c : Nat} {A : Option Addr} {b : List Int} (hO : Own w1 w.heap.size A c b) (hn : b.length = n) (hby : Bytes b) (hPl : s.P.length ≤ 1000000) {r : Int} {s' : DS} (hr : writeS s i b = (r, s')) :
    Calls Try.prog 16 #[.pointer (some ⟨g, 0, none⟩), .int .i64 i, .slice A n c] w1 fun ex w' => ex = .returned (.int .i64 r) ∧ Dk w' g s' V ∧ Fr V w1 w' := by
  obtain ⟨U, hU, h0⟩ := h
  subst hn
  refine (dk_write (hU.below hb) i rfl hby (own_F hO) hO.cap (fun k q z => Nat.lt_irrefl _ (Nat.lt_of_lt_of_le (hU.lt k z) (ownF_lt hO k q).1)) hPl).mono ?_
  rintro e w' ⟨rfl, hf, U', hD, hU'⟩
  rw [hr] at hD ⊢
  exact ⟨rfl, ⟨U', hD, fun k q => (hU' k q).elim (h0 k) (fun z => hV k (Nat.le_trans hb.size z))⟩, hf.mono h0⟩
theorem n_flush (h : Dk w g s V) {r : Int} {s' : DS} (hr : flushS s = (r, s')) : Calls Try.prog 18 #[.pointer (some ⟨g, 0, none⟩)] w fun ex w' => ex = .returned (.int .i64 r) ∧ Dk w' g s' V ∧ Fr V w w' := by
  obtain ⟨U, hU, h0⟩ := h
  refine (dk_flush hU).mono ?_
  rintro e w' ⟨rfl, hD, hf⟩
  rw [hr] at hD ⊢
  exact ⟨rfl, ⟨U, hD, h0⟩, hf.mono h0⟩
theorem n_crash (h : Dk w g s V) {UX : Nat → Prop} {ps : List Int} {Ax : Option Addr} {n cx : Nat} (hX : Kd.F (Kd.int .u8) w UX Ax n ps) (hn : ps.length = n) (hcx : n ≤ cx) (hUX : ∀ k, UX k → ¬ V k) {r : Int} {s' : DS} (hr : crashS s ps = (r, s')) :
    Calls Try.prog 23 #[.pointer (some ⟨g, 0, none⟩), .slice Ax n cx] w fun ex w' => ex = .returned (.int .i64 r) ∧ Dk w' g s' V ∧ Fr V w w' := by
  obtain ⟨U, hU, h0⟩ := h
  subst hn
  refine (dk_crash hU hX hcx (fun k q z => hUX k q (h0 k z))).mono ?_
  rintro e w' ⟨rfl, hD, hf⟩
  rw [hr] at hD ⊢
  exact ⟨rfl, ⟨U, hD, h0⟩, hf.mono h0⟩
theorem n_restart (h : Dk w g s V) {r : Int} {s' : DS} (hr : restartS s = (r, s')) : Calls Try.prog 30 #[.pointer (some ⟨g, 0, none⟩)] w fun ex w' => ex = .returned (.int .i64 r) ∧ Dk w' g s' V ∧ Fr V w w' := by
  obtain ⟨U, hU, h0⟩ := h
  refine (dk_restart hU).mono ?_
  rintro e w' ⟨rfl, hD, hf⟩
  rw [hr] at hD ⊢
  exact ⟨rfl, ⟨U, hD, h0⟩, hf.mono h0⟩
theorem n_on (h : Dk w g s V) {b : Bool} (hr : (!s.off) = b) : Calls Try.prog 31 #[.pointer (some ⟨g, 0, none⟩)] w fun ex w' => ex = .returned (.bool b) ∧ Below w.heap.size w w' := by
  obtain ⟨U, hU, h0⟩ := h
  rw [← hr]
  exact dk_on hU
theorem n_len (h : Dk w g s V) : Calls Try.prog 32 #[.pointer (some ⟨g, 0, none⟩)] w fun ex w' => ex = .returned (.int .i64 (s.B.length : Int)) ∧ Below w.heap.size w w' := by
  obtain ⟨U, hU, h0⟩ := h
  exact dk_len hU
theorem n_read (h : Dk w g s V) (i : Int) (hPl : s.P.length ≤ 1000000) {r : Int} {b : List Int} (hr : readS s i = (r, b)) : Calls Try.prog 19 #[.pointer (some ⟨g, 0, none⟩), .int .i64 i] w fun e w' => ∃ Y yd, e = .returned (.tuple #[.slice Y b.length yd, .int .i64 r]) ∧ Own w' w.heap.size Y yd b ∧ Below w.heap.size w w' := by
  obtain ⟨U, hU, h0⟩ := h
  have := dk_read hU i hPl
  rw [hr] at this
  exact this
end
theorem fillL_get (c : Int) (j : Nat) (h : j < 256) : (fillL c)[j]? = some ((c + (j : Int) / 64) % 256) := by
  unfold fillL fillK fillG
  simp only [List.getElem?_map, List.getElem?_range h, Option.map_some, if_pos h]
theorem write_up {s : DS} {i : Int} {b : List Int} (h : placeS s i = 0) (hb : b.length = 256) (ha : s.armed = 0) : writeS s i b = (0, { s with P := s.P ++ [(i, b)], ops := wrap64 (s.ops + 1) }) := by
  unfold writeS
  rw [if_neg (by rw [h]; decide), if_neg (by rw [hb]; decide)]
  have e : goesS { s with P := s.P ++ [(i, b)] } = (false, { s with P := s.P ++ [(i, b)], ops := wrap64 (s.ops + 1) }) := by
    unfold goesS
    exact if_pos ha
  show ((if (goesS { s with P := s.P ++ [(i, b)] }).1 = true then (5 : Int) else 0), (goesS { s with P := s.P ++ [(i, b)] }).2) = _
  rw [e]
  rfl
theorem flush_up {s : DS} (h : s.off = false) (ha : s.armed = 0) : flushS s = (0, { s with B := flushB s.B s.P, P := [], ops := wrap64 (s.ops + 1) }) := by
  unfold flushS
  rw [if_neg (by rw [h]; decide)]
  have e : goesS s = (false, { s with ops := wrap64 (s.ops + 1) }) := by
    unfold goesS
    exact if_pos ha
  show (if (goesS s).1 = true then (5, (goesS s).2) else (0, { (goesS s).2 with B := flushB (goesS s).2.B (goesS s).2.P, P := [] })) = _
  rw [e]
  rfl
def liveD (P : List (Int × List Int)) (ops : Int) : DS := { B := [zer 256, zer 256], P := P, off := false, ops := ops, armed := 0, picks := [] }
theorem live0 : newS 2 = liveD [] 0 := rfl
theorem live1 : writeS (liveD [] 0) 0 (fillL 10) = (0, liveD [(0, fillL 10)] 1) := (write_up (show placeS (liveD [] 0) 0 = 0 by decide) (fillL_len _) rfl).trans (by rw [show wrap64 ((liveD [] 0).ops + 1) = 1 from w64id (by decide) (by decide)]; rfl)
theorem live2 : writeS (liveD [(0, fillL 10)] 1) 0 (fillL 50) = (0, liveD [(0, fillL 10), (0, fillL 50)] 2) := (write_up (show placeS (liveD [(0, fillL 10)] 1) 0 = 0 from rfl) (fillL_len _) rfl).trans (by rw [show wrap64 ((liveD [(0, fillL 10)] 1).ops + 1) = 2 from w64id (by decide) (by decide)]; rfl)
theorem live3 : crashS (liveD [(0, fillL 10), (0, fillL 50)] 2) [15, 1] = (0, { B := [mix (fillL 10) (fillL 50) 1, zer 256], P := [], off := true, ops := 2, armed := 0, picks := [] }) := by
  have e : fallB [zer 256, zer 256] [((0, fillL 10), 15), ((0, fillL 50), 1)] = [mix (fillL 10) (fillL 50) 1, zer 256] := by
    show reachB (reachB [zer 256, zer 256] (0, fillL 10) 15) (0, fillL 50) 1 = _
    have e1 : reachB [zer 256, zer 256] (0, fillL 10) 15 = [fillL 10, zer 256] := by
      show [mix (zer 256) (fillL 10) 15, zer 256] = _
      rw [mix_15 (fillL_len _) (zer_len _)]
    rw [e1]
    rfl
  show (0, fallsS (liveD [(0, fillL 10), (0, fillL 50)] 2) [15, 1]) = _
  unfold fallsS
  rw [show fallB (liveD [(0, fillL 10), (0, fillL 50)] 2).B ((liveD [(0, fillL 10), (0, fillL 50)] 2).P.zip [15, 1]) = _ from e]
  rfl
theorem live4 : restartS { B := [mix (fillL 10) (fillL 50) 1, zer 256], P := [], off := true, ops := 2, armed := 0, picks := [] } = (0, { B := [mix (fillL 10) (fillL 50) 1, zer 256], P := [], off := false, ops := 2, armed := 0, picks := [] }) := rfl
theorem live5 : readS { B := [mix (fillL 10) (fillL 50) 1, zer 256], P := [], off := false, ops := 2, armed := 0, picks := [] } 0 = (0, mix (fillL 10) (fillL 50) 1) := rfl
theorem live6 : (mix (fillL 10) (fillL 50) 1).length = 256 ∧ (mix (fillL 10) (fillL 50) 1)[0]? = some 50 ∧ (mix (fillL 10) (fillL 50) 1)[64]? = some 11 ∧ (mix (fillL 10) (fillL 50) 1)[255]? = some 13 := by
  refine ⟨mix_len (fillL_len _) (fillL_len _) _, ?_, ?_, ?_⟩
  · rw [mix_get (fillL_len _) (fillL_len _) _ _ (by decide), if_pos (by decide +kernel), fillL_get _ _ (by decide)]; rfl
  · rw [mix_get (fillL_len _) (fillL_len _) _ _ (by decide), if_neg (by decide +kernel), fillL_get _ _ (by decide)]; rfl
  · rw [mix_get (fillL_len _) (fillL_len _) _ _ (by decide), if_neg (by decide +kernel), fillL_get _ _ (by decide)]; rfl
set_option maxRecDepth 100000 in
set_option maxHeartbeats 16000000 in
theorem live_c (w : World) : Calls Try.prog 15 #[] w fun e w' => e = .returned (.bool true) ∧ Below w.heap.size w w' := by
  have HV := Aside0.mk (show ∀ W : World, w.heap.size ≤ W.heap.size → ∀ k, W.heap.size ≤ k → w.heap.size ≤ k from fun W h k q => Nat.le_trans h q)
  go_enter Try.func15, Try.ntmps15
  go_wp2_with fail
  refine (new_ok w 2 (by decide) (by decide)).mono ?_
  rintro e w1 ⟨g, rfl, hg, hD, hb⟩
  rw [live0] at hD
  have D1 := Aside0.mk (show Dk w1 g (liveD [] 0) (fun k => w.heap.size ≤ k) from ⟨_, hD, fun k q => q.1⟩)
  have K1 := Aside0.mk hb
  clear hg hD hb
  go_wp2_with fail
  refine (filled_c w1 10).mono ?_
  rintro e w2 ⟨gY, rfl, hO, hb⟩
  have F2 := Aside0.mk hO
  have B2 := Aside0.mk hb
  clear hO hb
  go_wp2_with fail
  refine (n_write D1.out B2.out (HV.out w1 K1.out.size) 0 F2.out (fillL_len _) (fillL_bytes _) (by decide) live1).mono ?_
  rintro e w3 ⟨rfl, hD, hf⟩
  have D3 := Aside0.mk hD
  have K3 := Aside0.mk (hf.below (K1.out.trans (B2.out.mono K1.out.size)) (fun k q => q) (Nat.le_trans K1.out.size B2.out.size))
  clear hD hf D1 K1 F2 B2
  go_wp2_with fail
  refine (filled_c w3 50).mono ?_
  rintro e w4 ⟨gZ, rfl, hO, hb⟩
  have F4 := Aside0.mk hO
  have B4 := Aside0.mk hb
  clear hO hb
  go_wp2_with fail
  refine (n_write D3.out B4.out (HV.out w3 K3.out.size) 0 F4.out (fillL_len _) (fillL_bytes _) (by decide) live2).mono ?_
  rintro e w5 ⟨rfl, hD, hf⟩
  have D5 := Aside0.mk hD
  have K5 := Aside0.mk (hf.below (K3.out.trans (B4.out.mono K3.out.size)) (fun k q => q) (Nat.le_trans K3.out.size B4.out.size))
  clear hD hf D3 K3 F4 B4
  go_wp2_with fail
  have X6 := Aside0.mk (heap_new w5 (.cells #[.int .u8 15, .int .u8 1] 5))
  have B6 := (Below.refl w5.heap.size w5).alloc (Nat.le_refl _) (.cells #[.int .u8 15, .int .u8 1] 5)
  have D6 := Aside0.mk ((D5.out.mono (V' := fun k => w.heap.size ≤ k ∧ k ≠ w5.heap.size) (fun k q hl => ⟨q, Nat.ne_of_lt hl⟩)).below B6)
  have K6 := Aside0.mk (K5.out.trans (B6.mono K5.out.size))
  obtain ⟨w6, hw6⟩ : ∃ x, x = w5.alloc (Obj.cells #[Value.int IntKind.u8 15, Value.int IntKind.u8 1] 5) := ⟨_, rfl⟩
  obtain ⟨gP, hgP⟩ : ∃ x, x = w5.heap.size := ⟨_, rfl⟩
  rw [← hw6, ← hgP] at X6
  rw [← hw6] at D6 K6
  rw [← hgP] at D6
  rw [← hw6, ← hgP]
  clear hw6 hgP B6 D5 K5
  have XF := Aside0.mk (blk_F X6.out (l := [15, 1]) rfl (by decide))
  refine (n_crash D6.out XF.out rfl (by decide) (fun k e q => q.2 e) live3).mono ?_
  rintro e w7 ⟨rfl, hD, hf⟩
  have D7 := Aside0.mk (hD.mono (V' := fun k => w.heap.size ≤ k) (fun k q _ => q.1))
  have K7 := Aside0.mk (hf.below K6.out (fun k q => q.1) K6.out.size)
  clear hD hf D6 K6 XF X6
  go_wp2_with fail
  refine (n_on D7.out (b := false) rfl).mono ?_
  rintro e w8 ⟨rfl, hb⟩
  have D8 := Aside0.mk (D7.out.below hb)
  have K8 := Aside0.mk (K7.out.trans (hb.mono K7.out.size))
  clear hb D7 K7
  go_wp2_with fail
  refine (n_restart D8.out live4).mono ?_
  rintro e w9 ⟨rfl, hD, hf⟩
  have D9 := Aside0.mk hD
  have K9 := Aside0.mk (hf.below K8.out (fun k q => q) K8.out.size)
  clear hD hf D8 K8
  go_wp2_with fail
  refine (n_read D9.out 0 (by decide) live5).mono ?_
  rintro e wA ⟨Y, yd, rfl, hO, hb⟩
  have KA := Aside0.mk (K9.out.trans (hb.mono K9.out.size))
  obtain ⟨LL, e0, e64, e255⟩ := live6
  obtain ⟨L, hL⟩ : ∃ L, L = mix (fillL 10) (fillL 50) 1 := ⟨_, rfl⟩
  rw [← hL] at hO LL e0 e64 e255 ⊢
  obtain ⟨gy, cur, rfl, _, _, _⟩ := hO.blk (by rw [LL]; decide)
  have c0 := (own_cell hO (k := 0) (by rw [LL]; decide)).1
  have c64 := (own_cell hO (k := 64) (by rw [LL]; decide)).1
  have c255 := (own_cell hO (k := 255) (by rw [LL]; decide)).1
  rw [show L[0]'(by rw [LL]; decide) = 50 from (List.getElem?_eq_some_iff.1 e0).2] at c0
  rw [show L[64]'(by rw [LL]; decide) = 11 from (List.getElem?_eq_some_iff.1 e64).2] at c64
  rw [show L[255]'(by rw [LL]; decide) = 13 from (List.getElem?_eq_some_iff.1 e255).2] at c255
  rw [LL]
  clear hL e0 e64 e255 hO hb D9 K9 LL HV
  go_wp2_with fail
  go_ret
  exact ⟨rfl, KA.out⟩
end Go.Proofs.Ythnadkdfgckijaa.Pure
