/- Plain lemmas on how an argument that is a struct by value reads as data: its cells are its fields' own, one behind the other; for structs of whole numbers, bools, strings and slices, structs in structs too. -/
import Derived.ChangeArms
import Derived.WideShapes
namespace Go.Proofs.Ythfjgheedingbaa.Leaf
section
variable {H : Type} {enc : TypeId × Value → H} {P : Program} {w : World} {base : Nat} {spare : Nat → Bool} {held : Bool}
/-- Cells that the reading takes for leaves of these types. -/
def Leafs (enc : TypeId × Value → H) (P : Program) (w : World) (base : Nat) (spare : Nat → Bool) (held : Bool) : List TypeId → List Value → Prop
  | [], [] => True
  | t :: ts, c :: cs => (∃ m y, DataW.trod enc P w base spare held m t [c] = some y) ∧ Leafs enc P w base spare held ts cs
  | _, _ => False
def fieldLeaves (P : Program) (L : TypeId → Option (List TypeId)) (total : Nat) : List Field → Nat → Option (List TypeId)
  | [], off => if off = total then some [] else none
  | f :: r, off => if f.offset = off then (L f.type).bind fun a => if a.length = P.cellsOf f.type then (fieldLeaves P L total r (off + P.cellsOf f.type)).map (a ++ ·) else none else none
def leaves (P : Program) : Nat → TypeId → Option (List TypeId)
  | 0, _ => none
  | n + 1, t => match P.underlying t with
    | some (.struct fs) => fieldLeaves P (leaves P n) (P.cellsOf t) fs.toList 0
    | some (.int _) => some [t]
    | some .bool => some [t]
    | some .string => some [t]
    | some (.slice _) => some [t]
    | _ => none
theorem leafs_append : ∀ {a b : List TypeId} {x y : List Value}, Leafs enc P w base spare held a x → Leafs enc P w base spare held b y → Leafs enc P w base spare held (a ++ b) (x ++ y)
  | [], _, [], _, _, h => h
  | [], _, _ :: _, _, h, _ => h.elim
  | _ :: _, _, [], _, h, _ => h.elim
  | _ :: _, _, _ :: _, _, h, h2 => ⟨h.1, leafs_append h.2 h2⟩
theorem fields_leafs {n : Nat} {cs : List Value} {L : TypeId → Option (List TypeId)} {total : Nat} (hlen : cs.length = total)
    (hL : ∀ t ts cs y, L t = some ts → DataW.trod enc P w base spare held n t cs = some y → Leafs enc P w base spare held ts cs) :
    ∀ (fs : List Field) (off : Nat) (ts : List TypeId), fieldLeaves P L total fs off = some ts → (∀ f ∈ fs, ∃ y, DataW.trod enc P w base spare held n f.type ((cs.drop f.offset).take (P.cellsOf f.type)) = some y) →
      Leafs enc P w base spare held ts (cs.drop off)
  | [], off, ts, h, _ => by
    unfold fieldLeaves at h
    by_cases e : off = total
    · rw [if_pos e] at h
      obtain rfl := Option.some.inj h
      rw [List.drop_of_length_le (by omega)]
      trivial
    · rw [if_neg e] at h
      cases h
  | f :: r, off, ts, h, hf => by
    unfold fieldLeaves at h
    by_cases e : f.offset = off
    · rw [if_pos e] at h
      obtain ⟨a, ha, h⟩ := Option.bind_eq_some_iff.1 h
      by_cases e2 : a.length = P.cellsOf f.type
      · rw [if_pos e2] at h
        obtain ⟨b, hb, rfl⟩ := Option.map_eq_some_iff.1 h
        obtain ⟨y, hy⟩ := hf f List.mem_cons_self
        have h1 := hL _ _ _ _ ha hy
        have h2 := fields_leafs hlen hL r _ b hb (fun g hg => hf g (List.mem_cons_of_mem _ hg))
        have h3 := leafs_append h1 h2
        rw [e] at h3
        have h4 : (cs.drop off).take (P.cellsOf f.type) ++ cs.drop (off + P.cellsOf f.type) = cs.drop off := by
          rw [← List.drop_drop, List.take_append_drop]
        rwa [h4] at h3
      · rw [if_neg e2] at h
        cases h
    · rw [if_neg e] at h
      cases h
theorem leafs_of : ∀ (n m : Nat) (t : TypeId) (ts : List TypeId) (cs : List Value) (y : DataW H × List MemPlace), leaves P n t = some ts → DataW.trod enc P w base spare held m t cs = some y → Leafs enc P w base spare held ts cs
  | 0, _, _, _, _, _, h, _ => by simp [leaves] at h
  | n + 1, m, t, ts, cs, y, h, hy => by
    unfold leaves at h
    split at h
    · rename_i fs hu
      obtain ⟨xs, k, rfl, _, hl, hxl, hf⟩ := DataW.trod_struct hu hy
      have := fields_leafs (n := k) hl (fun t ts cs y a b => leafs_of n k t ts cs y a b) fs.toList 0 ts h (fun f hm => by
        obtain ⟨i, hi, rfl⟩ := List.getElem_of_mem hm
        have hi' : i < fs.size := by simpa using hi
        have h1 := hf i fs[i] (by rw [Array.getElem?_eq_getElem hi'])
        rw [List.getElem?_eq_getElem (by omega)] at h1
        exact ⟨_, by simpa using h1⟩)
      simpa using this
    · rename_i k hu
      obtain rfl := Option.some.inj h
      obtain ⟨z, rfl, _⟩ := DataW.trod_int hu hy
      exact ⟨⟨m, y, hy⟩, trivial⟩
    · rename_i hu
      obtain rfl := Option.some.inj h
      obtain ⟨z, rfl, _⟩ := DataW.trod_bool hu hy
      exact ⟨⟨m, y, hy⟩, trivial⟩
    · rename_i hu
      obtain rfl := Option.some.inj h
      obtain ⟨z, rfl, _⟩ := DataW.trod_string hu hy
      exact ⟨⟨m, y, hy⟩, trivial⟩
    · rename_i e hu
      obtain rfl := Option.some.inj h
      rcases DataW.trod_slice hu hy with ⟨rfl, _⟩ | ⟨a, len, cap, _, _, _, _, rfl, _⟩
      · exact ⟨⟨m, y, hy⟩, trivial⟩
      · exact ⟨⟨m, y, hy⟩, trivial⟩
    · cases h
theorem leaf_int {t : TypeId} {ts : List TypeId} {cs : List Value} {k : IntKind} (hu : P.underlying t = some (.int k)) (h : Leafs enc P w base spare held (t :: ts) cs) : ∃ z r, cs = .int k z :: r ∧ (Lit.int k z).wf = true ∧ Leafs enc P w base spare held ts r := by
  cases cs with
  | nil => exact h.elim
  | cons c r =>
    obtain ⟨⟨m, y, hy⟩, h2⟩ := h
    obtain ⟨z, he, _, hw⟩ := DataW.trod_int hu hy
    injection he with he
    exact ⟨z, r, by rw [he], hw, h2⟩
theorem leaf_bool {t : TypeId} {ts : List TypeId} {cs : List Value} (hu : P.underlying t = some .bool) (h : Leafs enc P w base spare held (t :: ts) cs) : ∃ z r, cs = .bool z :: r ∧ Leafs enc P w base spare held ts r := by
  cases cs with
  | nil => exact h.elim
  | cons c r =>
    obtain ⟨⟨m, y, hy⟩, h2⟩ := h
    obtain ⟨z, he, _⟩ := DataW.trod_bool hu hy
    injection he with he
    exact ⟨z, r, by rw [he], h2⟩
theorem leaf_any {t : TypeId} {ts : List TypeId} {cs : List Value} (h : Leafs enc P w base spare held (t :: ts) cs) : ∃ c r m y, cs = c :: r ∧ DataW.trod enc P w base spare held m t [c] = some y ∧ Leafs enc P w base spare held ts r := by
  cases cs with
  | nil => exact h.elim
  | cons c r =>
    obtain ⟨⟨m, y, hy⟩, h2⟩ := h
    exact ⟨c, r, m, y, rfl, hy, h2⟩
theorem leaf_nil {cs : List Value} (h : Leafs enc P w base spare held [] cs) : cs = [] := by
  cases cs with
  | nil => rfl
  | cons c r => exact h.elim
/-- A struct by value: its cells. -/
theorem open_struct {r : Reach} {b0 : Nat} {t : TypeId} {fs : Array Field} {ts : List TypeId} {v : Value} {d : DataW H} {p : List MemPlace} (hs : P.underlying t = some (.struct fs)) (hL : leaves P 9 t = some ts) (hv : Value.okWide P w r b0 t v) (h : DataW.Trod enc P w base spare held t v d p) :
    ∃ cs : List Value, v = .agg cs.toArray ∧ Leafs enc P w base spare held ts cs := by
  obtain ⟨cs, rfl, _⟩ := WideShapes.okWide_struct hs hv
  obtain ⟨m, hm⟩ := h
  exact ⟨cs.toList, by simp, leafs_of 9 m t ts _ _ hL hm⟩
end
end Go.Proofs.Ythfjgheedingbaa.Leaf
