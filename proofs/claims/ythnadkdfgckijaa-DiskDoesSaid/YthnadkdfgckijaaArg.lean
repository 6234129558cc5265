/- How an argument of whole numbers, bools, structs and slices of these, one in the other, reads as data: what it is made of, where its cells lie, and that none of its rows is heavier than an argument may be. -/
import Derived.ChangeArms
import Derived.WideShapes
import Derived.SizedLaws
import Derived.ChangeSlices
import Derived.Deep.Slices
import Derived.Test.YthnadkdfgckijaaWWords
namespace Go.Proofs.Ythnadkdfgckijaa.Arg
open Go.ChangeShapes Go.WideShapes Go.RowKit Go.Proofs.YthnadkdfgckijaaW.PrintWords
/-- What a value is made of. -/
inductive Ty where
  | int (k : IntKind)
  | bool
  | slice (B : Nat) (x : Ty)
  | nil
  | cons (a b : Ty)
def Ty.T : Ty → Type
  | .int _ => Int
  | .bool => Bool
  | .slice _ x => List x.T
  | .nil => Unit
  | .cons a b => a.T × b.T
def Ty.sz : Ty → Nat
  | .int _ => 1
  | .bool => 1
  | .slice _ _ => 1
  | .nil => 0
  | .cons a b => a.sz + b.sz
def Ty.K (w : World) : (ty : Ty) → ty.T → List Value → Prop
  | .int k, x, cs => cs = [.int k x] ∧ (Lit.int k x).wf = true
  | .bool, x, cs => cs = [.bool x]
  | .slice B t, xs, cs => ∃ (A : Option Addr) (c : Nat), cs = [.slice A (List.length (α := t.T) xs) c] ∧ List.length (α := t.T) xs ≤ c ∧ List.length (α := t.T) xs * B ≤ 140737488351232 ∧ ReadsRow (t.K w) t.sz w A (List.length (α := t.T) xs) xs
  | .nil, _, cs => cs = []
  | .cons a b, x, cs => ∃ c0 c1, cs = c0 ++ c1 ∧ a.K w x.1 c0 ∧ b.K w x.2 c1
theorem Ty.K_below {w w1 : World} (hb : Below w.heap.size w w1) : ∀ (ty : Ty) (x : ty.T) (cs : List Value), ty.K w x cs → ty.K w1 x cs
  | .int _, _, _, h => h
  | .bool, _, _, h => h
  | .slice _ t, _, _, ⟨A, c, h1, h2, h3, h4⟩ => ⟨A, c, h1, h2, h3, h4.imp_ hb (fun p cs hp => Ty.K_below hb t p cs hp)⟩
  | .nil, _, _, h => h
  | .cons a b, x, _, ⟨c0, c1, h1, h2, h3⟩ => ⟨c0, c1, h1, Ty.K_below hb a x.1 c0 h2, Ty.K_below hb b x.2 c1 h3⟩
def fieldsTy (P : Program) (L : TypeId → Option Ty) (total : Nat) : List Field → Nat → Option Ty
  | [], off => if off = total then some .nil else none
  | f :: r, off => if f.offset = off then (L f.type).bind fun a => if a.sz = P.cellsOf f.type then (fieldsTy P L total r (off + P.cellsOf f.type)).map (.cons a) else none else none
def tyOf (P : Program) : Nat → TypeId → Option Ty
  | 0, _ => none
  | n + 1, t => match P.underlying t with
    | some (.struct fs) => fieldsTy P (tyOf P n) (P.cellsOf t) fs.toList 0
    | some (.int k) => some (.int k)
    | some .bool => some .bool
    | some (.slice e) => (tyOf P n e).bind fun x => if x.sz = P.cellsOf e then some (.slice (P.bytesOf e) x) else none
    | _ => none
theorem Ty.K_len {w : World} : ∀ (ty : Ty) (x : ty.T) (cs : List Value), ty.K w x cs → cs.length = ty.sz
  | .int _, _, _, h => by rw [h.1]; rfl
  | .bool, _, _, h => by rw [show _ = _ from h]; rfl
  | .slice _ _, _, _, ⟨A, c, h1, _⟩ => by rw [h1]; rfl
  | .nil, _, _, h => by rw [show _ = _ from h]; rfl
  | .cons a b, x, _, ⟨c0, c1, h1, h2, h3⟩ => by rw [h1, List.length_append, Ty.K_len a x.1 c0 h2, Ty.K_len b x.2 c1 h3]; rfl
section
variable {H : Type} {enc : TypeId × Value → H} {P : Program} {w : World} {base : Nat} {spare : Nat → Bool} {held : Bool}
theorem fields_of {n : Nat} {cs : List Value} {L : TypeId → Option Ty} {total : Nat} (hlen : cs.length = total)
    (hL : ∀ t ty cs y, L t = some ty → DataW.trod enc P w base spare held n t cs = some y → (∀ n ∈ y.1.weights P t, n ≤ reachBytes) → ∃ x, ty.K w x cs) :
    ∀ (fs : List Field) (off : Nat) (ty : Ty), fieldsTy P L total fs off = some ty → (∀ f ∈ fs, ∃ y, DataW.trod enc P w base spare held n f.type ((cs.drop f.offset).take (P.cellsOf f.type)) = some y ∧ ∀ n ∈ y.1.weights P f.type, n ≤ reachBytes) →
      ∃ x, ty.K w x (cs.drop off)
  | [], off, ty, h, _ => by
    unfold fieldsTy at h
    by_cases e : off = total
    · rw [if_pos e] at h
      obtain rfl := Option.some.inj h
      rw [List.drop_of_length_le (by omega)]
      exact ⟨(), rfl⟩
    · rw [if_neg e] at h
      cases h
  | f :: r, off, ty, h, hf => by
    unfold fieldsTy at h
    by_cases e : f.offset = off
    · rw [if_pos e] at h
      obtain ⟨a, ha, h⟩ := Option.bind_eq_some_iff.1 h
      by_cases e2 : a.sz = P.cellsOf f.type
      · rw [if_pos e2] at h
        obtain ⟨b, hb, rfl⟩ := Option.map_eq_some_iff.1 h
        obtain ⟨y, hy, hyw⟩ := hf f List.mem_cons_self
        obtain ⟨x, hx⟩ := hL _ _ _ _ ha hy hyw
        obtain ⟨z, hz⟩ := fields_of hlen hL r _ b hb (fun g hg => hf g (List.mem_cons_of_mem _ hg))
        rw [e] at hx
        exact ⟨(x, z), _, _, by rw [← List.drop_drop, List.take_append_drop], hx, hz⟩
      · rw [if_neg e2] at h
        cases h
    · rw [if_neg e] at h
      cases h
theorem weightsAll_mem {e : TypeId} : ∀ {ds : List (DataW H)} {d : DataW H}, d ∈ ds → ∀ n ∈ d.weights P e, n ∈ DataW.weightsAll P e ds
  | [], _, h, _, _ => by cases h
  | d' :: ds, d, h, n, hn => by
    simp only [DataW.weightsAll, List.mem_append]
    rcases List.mem_cons.1 h with rfl | h
    · exact .inl hn
    · exact .inr (weightsAll_mem h n hn)
theorem reads_of : ∀ (n m : Nat) (t : TypeId) (ty : Ty) (cs : List Value) (y : DataW H × List MemPlace), tyOf P n t = some ty → DataW.trod enc P w base spare held m t cs = some y → (∀ n ∈ y.1.weights P t, n ≤ reachBytes) → ∃ x, ty.K w x cs
  | 0, _, _, _, _, _, h, _, _ => by simp [tyOf] at h
  | n + 1, m, t, ty, cs, y, h, hy, hyw => by
    unfold tyOf at h
    split at h
    · rename_i fs hu
      obtain ⟨xs, k, rfl, rfl, hl, hxl, hf⟩ := DataW.trod_struct hu hy
      have hyw2 : ∀ n ∈ DataW.weightsEach P (fs.toList.map (·.type)) (xs.map (·.1)), n ≤ reachBytes := by
        intro n hn
        refine hyw n ?_
        show n ∈ DataW.weights P t (.agg (xs.map (·.1)))
        unfold DataW.weights
        rw [hu]
        exact hn
      have := fields_of (n := k) hl (fun t ty cs y a b c => reads_of n k t ty cs y a b c) fs.toList 0 ty h (fun f hm => by
        obtain ⟨i, hi, rfl⟩ := List.getElem_of_mem hm
        have hi' : i < fs.size := by simpa using hi
        have h1 := hf i fs[i] (by rw [Array.getElem?_eq_getElem hi'])
        rw [List.getElem?_eq_getElem (by omega)] at h1
        refine ⟨_, by simpa using h1, fun n hn => hyw2 n ?_⟩
        refine DataW.weights_mem_each (j := i) (t := fs[i].type) ?_ ?_ n (by simpa using hn)
        · simp [hi']
        · rw [List.getElem?_map, List.getElem?_eq_getElem (by omega)]
          rfl)
      simpa using this
    · rename_i k hu
      obtain rfl := Option.some.inj h
      obtain ⟨z, rfl, _, hw⟩ := DataW.trod_int hu hy
      exact ⟨z, rfl, hw⟩
    · rename_i hu
      obtain rfl := Option.some.inj h
      obtain ⟨z, rfl, _⟩ := DataW.trod_bool hu hy
      exact ⟨z, rfl⟩
    · rename_i e hu
      obtain ⟨x, hx, h⟩ := Option.bind_eq_some_iff.1 h
      by_cases hs : x.sz = P.cellsOf e
      · rw [if_pos hs] at h
        obtain rfl := Option.some.inj h
        rcases Go.Deep.open_slice hu hy with ⟨rfl, _⟩ | ⟨a, len, cap, m', n', D, Pl, rfl, hb, hl, hm, hmm, rfl, hel⟩
        · exact ⟨([] : List x.T), none, 0, rfl, Nat.le_refl _, by simp, rfl, by simp, fun h => absurd h (Nat.lt_irrefl 0)⟩
        · have hlm : len ≤ m' := by rw [hmm]; split <;> omega
          have hws : ∀ n ∈ DataW.weights P t (.slice ((List.range len).map D) ((List.range (m' - len)).map fun j => D (len + j))), n ≤ reachBytes := hyw
          have key : ∀ i, i < len → ∃ z : x.T, ∃ cs', cs'.length = x.sz ∧ x.K w z cs' ∧ ∀ j u, cs'[j]? = some u → w.cell? (a.add (i * x.sz + j)) = some u := by
            intro i hi
            obtain ⟨cs', h1, h2⟩ := hel i (by omega)
            obtain ⟨z, hz⟩ := reads_of n n' e x cs' _ hx h2 (fun q hq => hws q (by
              unfold DataW.weights
              rw [hu]
              refine List.mem_cons_of_mem _ (List.mem_append_left _ (weightsAll_mem (d := D i) ?_ q hq))
              exact List.mem_map.2 ⟨i, List.mem_range.2 hi, rfl⟩))
            obtain ⟨_, h4, h5⟩ := World.cells?_some h1
            refine ⟨z, cs', Ty.K_len x z cs' hz, hz, fun j u hu2 => ?_⟩
            have hj : j < P.cellsOf e := by
              rcases Nat.lt_or_ge j cs'.length with h6 | h6
              · omega
              · rw [List.getElem?_eq_none h6] at hu2
                cases hu2
            have := h5 j hj
            rw [Go.Deep.add_add] at this
            rw [hs, this, hu2]
          obtain ⟨f, hf⟩ : ∃ f : (i : Nat) → i < len → x.T, ∀ i (hi : i < len), ∃ cs', cs'.length = x.sz ∧ x.K w (f i hi) cs' ∧ ∀ j u, cs'[j]? = some u → w.cell? (a.add (i * x.sz + j)) = some u :=
            ⟨fun i hi => Classical.choose (key i hi), fun i hi => Classical.choose_spec (key i hi)⟩
          have hlen : (List.ofFn (fun i : Fin len => f i.1 i.2)).length = len := List.length_ofFn
          have hwt := hws ((((List.range len).map D).length + ((List.range (m' - len)).map fun j => D (len + j)).length) * P.bytesOf e) (by
            unfold DataW.weights
            rw [hu]
            exact List.mem_cons_self)
          rw [List.length_map, List.length_range, List.length_map, List.length_range] at hwt
          refine ⟨(List.ofFn (fun i : Fin len => f i.1 i.2) : List x.T), some a, cap, by rw [hlen], by rw [hlen]; exact hl, ?_, rfl, ?_, fun _ => ⟨a, rfl, fun j p hj => ?_⟩⟩
          · rw [hlen]
            have h7 : len * P.bytesOf e ≤ (len + (m' - len)) * P.bytesOf e := Nat.mul_le_mul_right _ (by omega)
            have : reachBytes = 140737488351232 := rfl
            omega
          · rw [hlen]
            have : maxLen = 9223372036854775807 := rfl
            omega
          · have hjl : j < len := by
              rcases Nat.lt_or_ge j (List.ofFn (fun i : Fin len => f i.1 i.2)).length with h6 | h6
              · omega
              · rw [List.getElem?_eq_none h6] at hj
                cases hj
            rw [List.getElem?_eq_getElem (by omega)] at hj
            obtain rfl := Option.some.inj hj
            obtain ⟨cs', c1, c2, c3⟩ := hf j hjl
            exact ⟨cs', c1, by rw [List.getElem_ofFn]; exact c2, c3⟩
      · rw [if_neg hs] at h
        cases h
    · cases h
/-- An argument that is a slice. -/
theorem arg_slice {r : Reach} {b0 : Nat} {t e : TypeId} {ty : Ty} {v : Value} {d : DataW H} {p : List MemPlace} {ts : List TypeId} {ds : List (DataW H)} {j : Nat}
    (hsz : (DataW.weightsEach P ts ds).all (· ≤ reachBytes) = true) (ht : ts[j]? = some t) (hd : ds[j]? = some d) (hu : P.underlying t = some (.slice e)) (hT : tyOf P 9 t = some ty)
    (hv : Value.okWide P w r b0 t v) (h : DataW.Trod enc P w base spare held t v d p) : ∃ x, ty.K w x [v] := by
  obtain ⟨a, len, cap, rfl⟩ := okWide_slice hu hv
  obtain ⟨m, hm⟩ := h
  exact reads_of 9 m t ty _ _ hT hm (fun n hn => of_decide_eq_true (List.all_eq_true.1 hsz n (DataW.weights_mem_each ht hd n hn)))
/-- An argument that is a struct. -/
theorem arg_struct {r : Reach} {b0 : Nat} {t : TypeId} {fs : Array Field} {ty : Ty} {v : Value} {d : DataW H} {p : List MemPlace} {ts : List TypeId} {ds : List (DataW H)} {j : Nat}
    (hsz : (DataW.weightsEach P ts ds).all (· ≤ reachBytes) = true) (ht : ts[j]? = some t) (hd : ds[j]? = some d) (hu : P.underlying t = some (.struct fs)) (hT : tyOf P 9 t = some ty)
    (hv : Value.okWide P w r b0 t v) (h : DataW.Trod enc P w base spare held t v d p) : ∃ (cs : List Value) (x : ty.T), v = .agg cs.toArray ∧ ty.K w x cs := by
  obtain ⟨cs, rfl, _⟩ := WideShapes.okWide_struct hu hv
  obtain ⟨m, hm⟩ := h
  obtain ⟨x, hx⟩ := reads_of 9 m t ty _ _ hT hm (fun n hn => of_decide_eq_true (List.all_eq_true.1 hsz n (DataW.weights_mem_each ht hd n hn)))
  exact ⟨cs.toList, x, by simp, hx⟩
end
theorem rows_map {α β : Type} {R : α → List Value → Prop} {R' : β → List Value → Prop} {sz : Nat} {w : World} {A : Option Addr} {n : Nat} {ps : List α} (f : α → β) (h : ReadsRow R sz w A n ps) (hf : ∀ p c, R p c → R' (f p) c) : ReadsRow R' sz w A n (ps.map f) := by
  refine ⟨by rw [List.length_map]; exact h.1, h.2.1, fun hn => ?_⟩
  obtain ⟨ad, hA, hc⟩ := h.2.2 hn
  refine ⟨ad, hA, fun j p hj => ?_⟩
  rw [List.getElem?_map] at hj
  obtain ⟨q, hq, rfl⟩ := Option.map_eq_some_iff.1 hj
  obtain ⟨c, h1, h2, h3⟩ := hc j q hq
  exact ⟨c, h1, hf q c h2, h3⟩
/-- A row of whole numbers: how it reads, and that each is one of its kind. -/
theorem ints_of {w : World} {k : IntKind} {A : Option Addr} {n : Nat} {xs : List Int} (h : ReadsRow ((Ty.int k).K w) 1 w A n xs) : Kd.C (Kd.int k) w A n xs ∧ ∀ x ∈ xs, (Lit.int k x).wf = true := by
  refine ⟨h.imp_ (Below.refl _ _) (fun p c hp => hp.1), fun x hx => ?_⟩
  obtain ⟨j, hj, rfl⟩ := List.getElem_of_mem hx
  have hn : List.length (α := Int) xs = n := h.1
  obtain ⟨ad, hA, hc⟩ := h.2.2 (by omega)
  obtain ⟨c, _, h2, _⟩ := hc j _ (List.getElem?_eq_getElem hj)
  exact h2.2
end Go.Proofs.Ythnadkdfgckijaa.Arg
