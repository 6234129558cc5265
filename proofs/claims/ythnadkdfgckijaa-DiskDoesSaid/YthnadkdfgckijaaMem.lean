/- Rows of single cells as blocks of memory: what a block holds, and how it reads. -/
import Derived.Test.YthnadkdfgckijaaWWords
import Derived.Test.YthnadkdfgckijaaWLast
import Derived.Test.YthnadkdfgckijaaWMore
import Derived.Test.YthnadkdfgckijaaWKept
import Derived.Laws.CopyOwn
namespace Go.Proofs.Ythnadkdfgckijaa.Mem
open Go.RowKit Go.Proofs.YthnadkdfgckijaaW.PrintWords Go.Proofs.YthnadkdfgckijaaW.PrintLast Go.Proofs.YthnadkdfgckijaaW.PrintMore
set_option linter.unusedVariables false
set_option linter.unusedSimpArgs false

section
variable {α : Type} {enc : α → Value} {h1 : ∀ x, (enc x).oneCell' = true}
/-- A row of the call's own that has an element lies at a block's beginning. -/
theorem row_blk {e : Nat} {w : World} {base : Nat} {ok : Nat → Prop} {v : Value} {xs : List α} (h : (Kd.scalar enc h1).R e w base ok v xs) (hp : 0 < xs.length) :
    ∃ g cap cur, v = .slice (some ⟨g, 0, none⟩) xs.length cap ∧ base ≤ g ∧ ok g ∧ w.heap[g]? = some (.cells (List.toArray cur) e (0, 0)) ∧ xs.length ≤ cap ∧ cap ≤ maxLen ∧ cur.length = cap ∧ cur.take xs.length = encs enc xs := by
  have ho := Kd.own_of_R h
  rcases ho.2 with ⟨_, h0⟩ | ⟨g, cap, cur, hv, hb, hh, hn, hm, hs, ht⟩
  · omega
  · refine ⟨g, cap, cur.toList, hv, hb, h.1 g (by rw [hv]; rfl), by simpa using hh, hn, hm, by simpa using hs, by simpa using ht⟩
theorem getD_of {L : List Value} {xs : List α} {o : Nat} (h : (L.drop o).take xs.length = encs enc xs) (j : Nat) (hj : j < xs.length) : L[o + j]? = some (enc xs[j]) := by
  have h2 : ((L.drop o).take xs.length)[j]? = (encs enc xs)[j]? := by rw [h]
  rw [List.getElem?_take, if_pos hj, List.getElem?_drop] at h2
  rw [h2]
  simp [encs, List.getElem?_eq_getElem hj]
/-- What lies in a block from a place on reads as a row. -/
theorem blk_C {w : World} {g e o : Nat} {fr : Nat × Nat} {cur : List Value} {xs : List α} (hg : w.heap[g]? = some (.cells cur.toArray e fr)) (ht : (cur.drop o).take xs.length = encs enc xs) (hm : xs.length ≤ 9223372036854775807) : (Kd.scalar enc h1).C w (some ⟨g, o, none⟩) xs.length xs := by
  refine ⟨rfl, hm, fun _ => ⟨_, rfl, fun j p hj => ⟨[enc p], rfl, rfl, fun i u hu => ?_⟩⟩⟩
  have hj' : j < xs.length := by
    rcases Nat.lt_or_ge j xs.length with h | h
    · exact h
    · rw [List.getElem?_eq_none h] at hj
      cases hj
  have hi : i = 0 := by
    rcases Nat.eq_zero_or_pos i with h | h
    · exact h
    · rw [List.getElem?_eq_none (by simp; omega)] at hu
      cases hu
  subst hi
  have hu' : enc p = u := by simpa using hu
  rw [List.getElem?_eq_getElem hj'] at hj
  obtain rfl : xs[j] = p := by simpa using hj
  have := getD_of ht j hj'
  show w.cell? ((⟨g, o, none⟩ : Addr).add (j * 1 + 0)) = some u
  rw [Nat.mul_one, Nat.add_zero, add_at]
  unfold World.cell?
  simp only [hg]
  rw [← hu']
  simpa using this
/-- A row that lies over another one, from a place on. -/
def over (l : List α) (o : Nat) (x : List α) : List α := l.take o ++ (x ++ l.drop (o + x.length))
theorem over_length {l : List α} {o : Nat} {x : List α} (h : o + x.length ≤ l.length) : (over l o x).length = l.length := by simp [over]; omega
theorem splice_take {cur : List Value} {l x : List α} {o : Nat} (ht : cur.take l.length = encs enc l) (hx : o + x.length ≤ l.length) (hl : l.length ≤ cur.length) : (splice cur o (encs enc x)).take l.length = encs enc (over l o x) := by
  have hlen : (over l o x).length = l.length := over_length hx
  have hs : (splice cur o (encs enc x)).length = cur.length := length_splice _ _ _ (by simp [encs]; omega)
  apply List.ext_getElem?
  intro j
  rcases Nat.lt_or_ge j l.length with hj | hj
  · rw [List.getElem?_take, if_pos hj]
    have hc : cur[j]? = (encs enc l)[j]? := by rw [← ht, List.getElem?_take, if_pos hj]
    unfold splice over encs at *
    have e1 : min o cur.length = o := Nat.min_eq_left (by omega)
    have e2 : min o l.length = o := Nat.min_eq_left (by omega)
    simp only [List.map_append, List.map_take, List.map_drop, List.getElem?_append, List.length_take, List.length_map, e1, e2, List.getElem?_take, List.getElem?_drop]
    by_cases h1 : j < o
    · simp only [h1, if_true, hc]
    · by_cases h2 : j - o < x.length
      · simp only [h1, h2, if_true, if_false]
      · simp only [h1, h2, if_false, show o + x.length + (j - o - x.length) = j by omega, hc]
  · rw [List.getElem?_eq_none (by rw [List.length_take]; omega), List.getElem?_eq_none (by simp [encs, hlen]; omega)]
/-- The cells from which a row is copied. -/
theorem C_cells {w : World} {A : Option Addr} {n : Nat} {xs : List α} (h : (Kd.scalar enc h1).C w A n xs) (k : Nat) (hk : k ≤ n) (hp : 0 < k) : ∃ ad, A = some ad ∧ ∀ j v, (encs enc (xs.take k))[j]? = some v → w.cell? (ad.add j) = some v := by
  have hn : xs.length = n := h.1
  obtain ⟨ad, hA, hc⟩ := h.2.2 (by omega)
  refine ⟨ad, hA, fun j v hv => ?_⟩
  have hj : j < k := by
    rcases Nat.lt_or_ge j k with h | h
    · exact h
    · rw [List.getElem?_eq_none (by simp [encs]; omega)] at hv
      cases hv
  have hv' : enc (xs[j]'(by omega)) = v := by
    simp [encs, List.getElem?_take, hj, List.getElem?_eq_getElem (show j < xs.length by omega)] at hv
    exact hv
  obtain ⟨c, _, hK, hcell⟩ := hc j _ (List.getElem?_eq_getElem (by omega))
  have hK' : c = [enc (xs[j]'(by omega))] := hK
  have := hcell 0 v (by rw [hK', ← hv']; rfl)
  have hz : (Kd.scalar enc h1).sz = 1 := rfl
  rw [hz, Nat.mul_one, Nat.add_zero] at this
  exact this
theorem encs_one (xs : List α) (h1 : ∀ x, (enc x).oneCell' = true) : ∀ v ∈ encs enc xs, v.oneCell' = true := by
  intro v hv
  simp only [encs, List.mem_map] at hv
  obtain ⟨q, _, rfl⟩ := hv
  exact h1 q
end
/-- One block alone may be another one. -/
structure Only (g : Nat) (w w' : World) : Prop where
  os : w'.os = w.os
  tape : w'.tape = w.tape
  output : w'.output = w.output
  size : w'.heap.size = w.heap.size
  block : ∀ k, k ≠ g → w'.heap[k]? = w.heap[k]?
theorem Only.refl (g : Nat) (w : World) : Only g w w := ⟨rfl, rfl, rfl, rfl, fun _ _ => rfl⟩
theorem Only.below {g B : Nat} {w0 w w' : World} (h : Only g w w') (hb : Below B w0 w) (hg : B ≤ g) : Below B w0 w' :=
  hb.trans ⟨h.os, h.tape, h.output, Nat.le_of_eq h.size.symm, fun k hk => h.block k (by omega)⟩
theorem Only.kept {g : Nat} {w0 w w' : World} {S : Nat → Prop} (h : Only g w w') (k : Kept w0 w S) (hg : S g ∨ w0.heap.size ≤ g) : Kept w0 w' S :=
  k.then_ (S2 := fun i => i = g) ⟨Nat.le_of_eq h.size.symm, fun i _ hi => h.block i hi⟩ (fun i hi => by rw [hi]; exact hg)
theorem only_setRow (w : World) (g : Nat) (cs : Array Value) : Only g w (w.setRow g cs) := ⟨rfl, rfl, rfl, by simp [World.setRow], fun k hk => setRow_other w g k cs hk⟩
theorem only_setCell (w : World) (p : Addr) (v : Value) : Only p.block w (w.setCell p v) := ⟨rfl, rfl, rfl, by simp [World.setCell], fun k hk => Below.heap_setCell w p v k hk⟩
theorem step_copy_only {P : Program} {ops : Array Oper} {o : Oper} {a : Act} {w : World} {K : Act → World → Prop} {Q : Exit → Act → World → Prop} {E : Prop} (hgd : o.guard = none) (d s : Operand) (dT sT : TypeId)
    (ho : o.op = .call { callee := .builtin .copy, args := #[d, s], argTypes := #[dT, sT] }) (elem : TypeId) (hu : P.underlying dT = some (.slice elem)) (hsz : (P.info? elem).map (·.size) = some 1)
    (dp sp : Option Addr) (dLen dCap sLen sCap : Nat) (hd : a.eval d = .slice dp dLen dCap) (hs : a.eval s = .slice sp sLen sCap)
    (g off : Nat) (cur : List Value) (t : TypeId) (hg : w.heap[g]? = some (.cells cur.toArray t (0, 0))) (cs : List Value) (hn : cs.length = Nat.min sLen dLen)
    (hpos : 0 < cs.length → dp = some ⟨g, off, none⟩ ∧ ∃ ad, sp = some ad ∧ ∀ j v, cs[j]? = some v → w.cell? (ad.add j) = some v)
    (hfit : off + cs.length ≤ cur.length) (h1 : ∀ v ∈ cs, v.oneCell' = true)
    (h : ∀ w', Aside0 (w'.heap[g]? = some (.cells (splice cur off cs).toArray t (0, 0))) → Aside0 (Only g w w') → K (a.put o.dst (goInt cs.length)) w') :
    if Region.wanted o (yielded ops a.tmps) = true then Oper.wp P o a w K Q else E := by
  have hw : Region.wanted o (yielded ops a.tmps) = true := by simp [Region.wanted, hgd]
  rw [if_pos hw]
  by_cases h0 : cs.length = 0
  · obtain rfl : cs = [] := List.eq_nil_of_length_eq_zero h0
    have hrun := run_copy_none (P := P) w dT sT o.type elem dp sp dLen dCap sLen sCap hu hsz (by simpa using hn.symm)
    unfold Oper.wp
    simp [execOp, ho, resolve, invoke, builtin, hd, hs, hrun, Result.andThen]
    exact h w ⟨by simpa [splice] using hg⟩ ⟨Only.refl g w⟩
  · obtain ⟨rfl, ad, rfl, hsrc⟩ := hpos (by omega)
    have hrun := run_copy_row (P := P) w dT sT o.type elem g off dLen dCap ad sLen sCap cur.toArray t cs hu hsz hg hn hsrc (by simpa using hfit) h1
    unfold Oper.wp
    simp [execOp, ho, resolve, invoke, builtin, hd, hs, hrun, Result.andThen]
    exact h _ ⟨by simpa [splice] using setRow_heap w g _ _ t _ hg⟩ ⟨only_setRow w g _⟩
theorem wpList_copy_only {P : Program} {w : World} {ops : Array Oper} {rest : List Oper} {o : Oper} {a : Act} {Q : Exit → Act → World → Prop} (hgd : o.guard = none) (d s : Operand) (dT sT : TypeId)
    (ho : o.op = .call { callee := .builtin .copy, args := #[d, s], argTypes := #[dT, sT] }) (elem : TypeId) (hu : P.underlying dT = some (.slice elem)) (hsz : (P.info? elem).map (·.size) = some 1)
    (dp sp : Option Addr) (dLen dCap sLen sCap : Nat) (hd : a.eval d = .slice dp dLen dCap) (hs : a.eval s = .slice sp sLen sCap)
    (g off : Nat) (cur : List Value) (t : TypeId) (hg : w.heap[g]? = some (.cells cur.toArray t (0, 0))) (cs : List Value) (hn : cs.length = Nat.min sLen dLen)
    (hpos : 0 < cs.length → dp = some ⟨g, off, none⟩ ∧ ∃ ad, sp = some ad ∧ ∀ j v, cs[j]? = some v → w.cell? (ad.add j) = some v)
    (hfit : off + cs.length ≤ cur.length) (h1 : ∀ v ∈ cs, v.oneCell' = true)
    (h : ∀ w', Aside0 (w'.heap[g]? = some (.cells (splice cur off cs).toArray t (0, 0))) → Aside0 (Only g w w') → wpList P ops Q rest (a.put o.dst (goInt cs.length)) w') :
    wpList P ops Q (o :: rest) a w := by
  by_cases h0 : cs.length = 0
  · obtain rfl : cs = [] := List.eq_nil_of_length_eq_zero h0
    refine wpList_copy_nothing hgd d s dT sT ho elem hu hsz dp sp dLen dCap sLen sCap hd hs (by simpa using hn.symm) ?_
    exact h w ⟨by simpa [splice] using hg⟩ ⟨Only.refl g w⟩
  · obtain ⟨rfl, ad, rfl, hsrc⟩ := hpos (by omega)
    refine wpList_copy_own hgd d s dT sT ho elem hu hsz g off dLen dCap ad sLen sCap hd hs cur.toArray t hg cs hn hsrc (by simpa using hfit) h1 ?_
    exact h _ ⟨by simpa [splice] using setRow_heap w g _ _ t _ hg⟩ ⟨only_setRow w g _⟩
end Go.Proofs.Ythnadkdfgckijaa.Mem
