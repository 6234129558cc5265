/- Plain lemmas on the next bit that is so, on runs of ones and how many ones there are; for all rows below 2^47 bytes. -/
import Derived.Test.YtifeimbamibkeaaSets
namespace Go.Proofs.Ytifeimbamibkeaa.Pure
open Go.RowKit Go.Proofs.Ytifeimbamibkeaa.PAll Go.Proofs.YtifeimbamibkeaaW.PrintWords Go.Proofs.YtifeimbamibkeaaW.PrintLast Go.Proofs.YtifeimbamibkeaaW.PrintMore
set_option linter.unusedVariables false

/-- The next bit that is so: d places of the row are left behind s. -/
def nxI (l : List Int) (n : Int) (is : Bool) : Nat → Nat → Int
  | 0, s => if (s : Int) < n then (if is = true then n else s) else n
  | d + 1, s => if (s : Int) < n then (if bitN l s = is then s else nxI l n is d (s + 1)) else n
theorem next_l0 (l : List Int) (n : Int) (is : Bool) (hb : Bytes l) (hl : l.length < 140737488355328) (hn : n ≤ 9223372036854775807) (d : Nat) : ∀ (k s : Nat), 8 * l.length - s = d → 2 * d + 2 ≤ k → bits_Next.l0 k l n is s = some (nxI l n is d s) := by
  induction d with
  | zero =>
    intro k s hd hk
    obtain ⟨k, rfl⟩ : ∃ m, k = (m + 1) + 1 := ⟨k - 2, by omega⟩
    rw [bits_Next.l0, nxI]
    by_cases h : (s : Int) < n
    · rw [if_pos h, if_pos h, there_f l s hl (by omega), Option.bind_some, decide_eq_false (by rw [Int.toNat_natCast]; omega), if_neg (by decide), bits_Next.j1]
      cases is
      · rw [if_neg (by decide), if_neg (by decide), get_f l s hb hl (by omega), Option.bind_some, Int.toNat_natCast, bitN_out (by omega), Bool.and_false, if_pos (by rfl)]
      · rw [if_pos rfl, if_pos rfl]
    · rw [if_neg h, if_neg h]
  | succ d ih =>
    intro k s hd hk
    obtain ⟨k, rfl⟩ : ∃ m, k = (m + 1) + 1 := ⟨k - 2, by omega⟩
    rw [bits_Next.l0, nxI]
    by_cases h : (s : Int) < n
    · rw [if_pos h, if_pos h, there_f l s hl (by omega), Option.bind_some, decide_eq_true (by rw [Int.toNat_natCast]; omega), if_pos rfl, bits_Next.j1, if_neg (by decide), get_f l s hb hl (by omega), Option.bind_some, Int.toNat_natCast, decide_eq_true (by omega), Bool.true_and]
      by_cases e : bitN l s = is
      · rw [if_pos e, if_pos (by rw [e]; simp)]
      · rw [if_neg e, if_neg (by rw [beq_iff_eq]; exact e), succ64 (by omega)]
        exact ih k (s + 1) (by omega) (by omega)
    · rw [if_neg h, if_neg h]
theorem mx0 (f : Int) : mx f 0 = ((f.toNat : Nat) : Int) := by unfold mx; split <;> omega
theorem next_f (k : Nat) (l : List Int) (n f : Int) (is : Bool) (hb : Bytes l) (hl : l.length < 140737488355328) (hn : n ≤ 9223372036854775807) (hk : 16 * l.length + 2 ≤ k) : bits_Next.f k l n f is = some (nxI l n is (8 * l.length - f.toNat) f.toNat) := by
  unfold bits_Next.f
  rw [mx0]
  exact next_l0 l n is hb hl hn _ k _ rfl (by omega)
theorem rnext_l0 (l : List Int) (n : Int) (is : Bool) (s0 : Nat) (hb : Bytes l) (hl : l.length < 140737488355328) (hn : n ≤ 9223372036854775807) (d : Nat) : ∀ (k s : Nat), 8 * l.length - s = d → (s ≤ 8 * l.length ∧ s0 ≤ s ∨ s = s0) → 2 * d + 2 ≤ k → atticref02_Next.l0 k l n s0 is s = some (nxI l n is d s) := by
  induction d with
  | zero =>
    intro k s hd hs hk
    obtain ⟨k, rfl⟩ : ∃ m, k = (m + 1) + 1 := ⟨k - 2, by omega⟩
    have hm : mx (s0 : Int) (wrap64 (8 * (l.length : Int))) = s := by rw [m8 hl]; unfold mx; split <;> omega
    rw [atticref02_Next.l0, nxI]
    by_cases h : (s : Int) < n
    · rw [if_pos h, if_pos h, m8 hl, decide_eq_false (by omega), atticref02_Next.j1, if_neg (by decide), hm]
      cases is
      · simp [h]
      · rw [if_pos rfl, if_pos rfl]
    · rw [if_neg h, if_neg h, atticref02_Next.j1, if_neg (by decide), hm, if_neg h]
      split <;> rfl
  | succ d ih =>
    intro k s hd hs hk
    obtain ⟨k, rfl⟩ : ∃ m, k = (m + 1) + 1 := ⟨k - 2, by omega⟩
    rw [atticref02_Next.l0, nxI]
    by_cases h : (s : Int) < n
    · rw [if_pos h, if_pos h, m8 hl, decide_eq_true (by omega), atticref02_Next.j1, if_pos rfl, rg l s hb hl (by omega), Option.bind_some]
      by_cases e : bitN l s = is
      · rw [if_pos e, if_pos (by rw [e]; simp)]
      · rw [if_neg e, if_neg (by rw [beq_iff_eq]; exact e), succ64 (by omega)]
        exact ih k (s + 1) (by omega) (.inl (by omega)) (by omega)
    · have hm : ¬ mx (s0 : Int) (wrap64 (8 * (l.length : Int))) < n := by rw [m8 hl]; unfold mx; split <;> omega
      rw [if_neg h, if_neg h, atticref02_Next.j1, if_neg (by decide), if_neg hm]
      split <;> rfl
theorem rnext_f (k : Nat) (l : List Int) (n f : Int) (is : Bool) (hb : Bytes l) (hl : l.length < 140737488355328) (hn : n ≤ 9223372036854775807) (hk : 16 * l.length + 2 ≤ k) : atticref02_Next.f k l n f is = some (nxI l n is (8 * l.length - f.toNat) f.toNat) := by
  unfold atticref02_Next.f
  rw [mx0]
  exact rnext_l0 l n is f.toNat hb hl hn _ k _ rfl (.inr rfl) (by omega)
/-! ### Where the next bit lies, in a row's first m bits -/
theorem nxI_spec (l : List Int) (m : Nat) (is : Bool) (hm : m ≤ 8 * l.length) (d : Nat) : ∀ s, 8 * l.length - s = d → s ≤ m → ∃ e : Nat, nxI l m is d s = e ∧ s ≤ e ∧ e ≤ m ∧ (∀ i, s ≤ i → i < e → bitN l i = !is) ∧ (e < m → bitN l e = is) := by
  induction d with
  | zero =>
    intro s hd hs
    rw [nxI, if_neg (by omega)]
    exact ⟨m, rfl, hs, Nat.le_refl _, fun i h1 h2 => by omega, fun h => by omega⟩
  | succ d ih =>
    intro s hd hs
    rw [nxI]
    by_cases h : (s : Int) < m
    · rw [if_pos h]
      by_cases e : bitN l s = is
      · rw [if_pos e]
        exact ⟨s, rfl, Nat.le_refl _, by omega, fun i h1 h2 => by omega, fun _ => e⟩
      · rw [if_neg e]
        obtain ⟨q, h1, h2, h3, h4, h5⟩ := ih (s + 1) (by omega) (by omega)
        refine ⟨q, h1, by omega, h3, fun i hi1 hi2 => ?_, h5⟩
        by_cases ei : i = s
        · subst ei
          revert e
          cases bitN l i <;> cases is <;> simp
        · exact h4 i (by omega) hi2
    · rw [if_neg h]
      exact ⟨m, rfl, hs, Nat.le_refl _, fun i h1 h2 => by omega, fun h => by omega⟩
/-! ### Runs of ones -/
/-- The runs of a row's first bits. -/
def runR (l : List Int) : Nat → List (Nat × Nat)
  | 0 => []
  | i + 1 => if bitN l i = true then (match (runR l i).getLast? with
      | some x => if x.1 + x.2 = i then (runR l i).dropLast ++ [(x.1, x.2 + 1)] else runR l i ++ [(i, 1)]
      | none => runR l i ++ [(i, 1)]) else runR l i
/-- How many of them are ones. -/
def ones (l : List Int) : Nat → Nat
  | 0 => 0
  | i + 1 => ones l i + (if bitN l i = true then 1 else 0)
theorem ones_le (l : List Int) : ∀ i, ones l i ≤ i
  | 0 => Nat.le_refl _
  | i + 1 => by have := ones_le l i; unfold ones; split <;> omega
/-- The last run ends ahead of i. -/
def Apart (P : List (Nat × Nat)) (i : Nat) : Prop := ∀ x, P.getLast? = some x → x.1 + x.2 < i
theorem runR_zeros (l : List Int) (i d : Nat) (h : ∀ j, i ≤ j → j < i + d → bitN l j = false) : runR l (i + d) = runR l i := by
  induction d with
  | zero => rfl
  | succ d ih =>
    rw [← Nat.add_assoc, runR, h (i + d) (by omega) (by omega), if_neg (by decide)]
    exact ih (fun j h1 h2 => h j h1 (by omega))
theorem runR_ones (l : List Int) (i d : Nat) (hA : Apart (runR l i) i) (h : ∀ j, i ≤ j → j < i + (d + 1) → bitN l j = true) : runR l (i + (d + 1)) = runR l i ++ [(i, d + 1)] := by
  induction d with
  | zero =>
    rw [runR, h i (Nat.le_refl _) (by omega), if_pos rfl]
    cases e : (runR l i).getLast? with
    | none => rfl
    | some x =>
      have := hA x e
      show (if x.1 + x.2 = i then _ else _) = _
      rw [if_neg (by omega)]
  | succ d ih =>
    have h0 := ih (fun j h1 h2 => h j h1 (by omega))
    rw [show i + (d + 1 + 1) = (i + (d + 1)) + 1 by omega, runR, h (i + (d + 1)) (by omega) (by omega), if_pos rfl, h0]
    rw [List.getLast?_append, List.getLast?_singleton]
    show (if i + (d + 1) = i + (d + 1) then _ else _) = _
    rw [if_pos rfl, List.dropLast_concat]
theorem runR_le (l : List Int) : ∀ i, ∀ x ∈ runR l i, 1 ≤ x.2 ∧ x.1 + x.2 ≤ i
  | 0 => fun x hx => by cases hx
  | i + 1 => fun x hx => by
    have ih := runR_le l i
    unfold runR at hx
    by_cases hb : bitN l i = true
    · rw [if_pos hb] at hx
      cases e : (runR l i).getLast? with
      | none =>
        rw [e] at hx
        rcases List.mem_append.1 hx with h | h
        · have := ih x h; omega
        · rw [List.mem_singleton.1 h]; simp
      | some y =>
        rw [e] at hx
        change x ∈ (if y.1 + y.2 = i then _ else _) at hx
        have hy := ih y (List.mem_of_getLast? e)
        by_cases hj : y.1 + y.2 = i
        · rw [if_pos hj] at hx
          rcases List.mem_append.1 hx with h | h
          · have := ih x ((List.dropLast_sublist _).subset h); omega
          · rw [List.mem_singleton.1 h]
            show 1 ≤ y.2 + 1 ∧ y.1 + (y.2 + 1) ≤ i + 1
            omega
        · rw [if_neg hj] at hx
          rcases List.mem_append.1 hx with h | h
          · have := ih x h; omega
          · rw [List.mem_singleton.1 h]; simp
    · rw [if_neg hb] at hx
      have := ih x hx
      omega
theorem runR_length (l : List Int) : ∀ i, (runR l i).length ≤ i
  | 0 => Nat.le_refl _
  | i + 1 => by
    have ih := runR_length l i
    unfold runR
    by_cases hb : bitN l i = true
    · rw [if_pos hb]
      cases e : (runR l i).getLast? with
      | none => show (runR l i ++ [(i, 1)]).length ≤ _; rw [List.length_append]; simp; omega
      | some y =>
        show (if y.1 + y.2 = i then _ else _ : List (Nat × Nat)).length ≤ _
        split
        · rw [List.length_append, List.length_dropLast]; simp; omega
        · rw [List.length_append]; simp; omega
    · rw [if_neg hb]; omega
def total (P : List (Nat × Nat)) : Nat := (P.map (·.2)).sum
theorem runR_total (l : List Int) : ∀ i, total (runR l i) = ones l i
  | 0 => rfl
  | i + 1 => by
    have ih := runR_total l i
    unfold runR ones
    by_cases hb : bitN l i = true
    · rw [if_pos hb, if_pos hb, ← ih]
      cases e : (runR l i).getLast? with
      | none => show total (runR l i ++ [(i, 1)]) = _; simp [total]
      | some y =>
        show total (if y.1 + y.2 = i then _ else _) = _
        by_cases hj : y.1 + y.2 = i
        · rw [if_pos hj]
          obtain ⟨ys, hys⟩ := List.getLast?_eq_some_iff.1 e
          rw [hys, List.dropLast_concat]
          simp [total]
          omega
        · rw [if_neg hj]
          simp [total]
    · rw [if_neg hb, if_neg hb, ih]
      rfl
/-- A run, as the program tells it. -/
def enc (x : Nat × Nat) : Int × Int := ((x.1 : Int), (x.2 : Int))
theorem apart_mono {P : List (Nat × Nat)} {i j : Nat} (h : Apart P i) (hij : i ≤ j) : Apart P j := fun x hx => Nat.lt_of_lt_of_le (h x hx) hij
theorem nextN (kk : Nat) (l : List Int) (m s : Nat) (is : Bool) (hb : Bytes l) (hl : l.length < 140737488355328) (hm : m ≤ 8 * l.length) (hs : s ≤ m) (hk : 16 * l.length + 2 ≤ kk) : ∃ e : Nat, bits_Next.f kk l m s is = some (e : Int) ∧ s ≤ e ∧ e ≤ m ∧ (∀ i, s ≤ i → i < e → bitN l i = !is) ∧ (e < m → bitN l e = is) := by
  obtain ⟨e, h1, h2⟩ := nxI_spec l m is hm _ s rfl hs
  exact ⟨e, by rw [next_f kk l m s is hb hl (by omega) hk, Int.toNat_natCast, h1], h2⟩
theorem go_runs (kk : Nat) (l : List Int) (m : Nat) (hb : Bytes l) (hl : l.length < 140737488355328) (hm : m ≤ 8 * l.length) (hk : 16 * l.length + 2 ≤ kk) (d : Nat) : ∀ (q a : Nat), a ≤ m → m - a ≤ d → d < q → (a < m → bitN l a = true) → (a < m → Apart (runR l a) a) → ∃ zs, bits_Count.go kk l m q a = some (zs.map enc) ∧ runR l m = runR l a ++ zs := by
  induction d with
  | zero =>
    intro q a ha hd hq h1 hA
    obtain ⟨q, rfl⟩ : ∃ p, q = p + 1 := ⟨q - 1, by omega⟩
    obtain rfl : a = m := by omega
    rw [bits_Count.go, if_neg (by omega)]
    exact ⟨[], rfl, by simp⟩
  | succ d ih =>
    intro q a ha hd hq h1 hA
    obtain ⟨q, rfl⟩ : ∃ p, q = p + 1 := ⟨q - 1, by omega⟩
    by_cases hlt : a < m
    · obtain ⟨e, e1, e2, e3, e4, e5⟩ := nextN kk l m a false hb hl hm ha hk
      have hae : a < e := by
        rcases Nat.lt_or_ge a e with h | h
        · exact h
        · obtain rfl : e = a := by omega
          have := e5 hlt
          rw [h1 hlt] at this
          cases this
      obtain ⟨a2, f1, f2, f3, f4, f5⟩ := nextN kk l m e true hb hl hm e3 hk
      have hR1 := runR_ones l a (e - a - 1) (hA hlt) (fun j j1 j2 => e4 j j1 (by omega))
      rw [show a + (e - a - 1 + 1) = e by omega, show e - a - 1 + 1 = e - a by omega] at hR1
      have hR2 := runR_zeros l e (a2 - e) (fun j j1 j2 => f4 j j1 (by omega))
      rw [show e + (a2 - e) = a2 by omega] at hR2
      have hne : a2 < m → e < a2 := fun h => by
        rcases Nat.lt_or_ge e a2 with h2 | h2
        · exact h2
        · obtain rfl : a2 = e := by omega
          have q1 := f5 h
          rw [e5 h] at q1
          cases q1
      obtain ⟨zs, z1, z2⟩ := ih q a2 f3 (by omega) (by omega) f5 (fun h x hx => by
        rw [hR2, hR1, List.getLast?_append, List.getLast?_singleton] at hx
        obtain rfl : (a, e - a) = x := by simpa using hx
        have := hne h
        show a + (e - a) < a2
        omega)
      rw [bits_Count.go, if_pos (by omega), e1, Option.bind_some, f1, Option.bind_some, z1, Option.map_some, w64id (by omega) (by omega)]
      refine ⟨(a, e - a) :: zs, ?_, ?_⟩
      · rw [List.map_cons]
        congr 2
        show ((a : Int), (e : Int) - (a : Int)) = ((a : Int), ((e - a : Nat) : Int))
        rw [show ((e - a : Nat) : Int) = (e : Int) - (a : Int) by omega]
      · rw [z2, hR2, hR1, List.append_assoc]
        rfl
    · obtain rfl : a = m := by omega
      rw [bits_Count.go, if_neg (by omega)]
      exact ⟨[], rfl, by simp⟩
/-- All runs, as the program goes through them. -/
theorem runs_w (kk : Nat) (l : List Int) (m q : Nat) (hb : Bytes l) (hl : l.length < 140737488355328) (hm : m ≤ 8 * l.length) (hk : 16 * l.length + 2 ≤ kk) (hq : m < q) : ∃ a0 : Nat, bits_Next.f kk l m 0 true = some (a0 : Int) ∧ bits_Count.go kk l m q a0 = some ((runR l m).map enc) := by
  obtain ⟨a, h1, h2, h3, h4, h5⟩ := nextN kk l m 0 true hb hl hm (Nat.zero_le _) hk
  have hz := runR_zeros l 0 a (fun j j1 j2 => h4 j j1 (by omega))
  rw [Nat.zero_add] at hz
  obtain ⟨zs, z1, z2⟩ := go_runs kk l m hb hl hm hk m q a h3 (by omega) hq h5 (fun _ x hx => by rw [hz] at hx; cases hx)
  rw [hz] at z2
  exact ⟨a, h1, by rw [z1, z2]; rfl⟩
theorem cnt_enc (P : List (Nat × Nat)) (h : total P ≤ 9223372036854775807) : bits_Count.cnt (P.map enc) = (total P : Int) := by
  have key : ∀ (P : List (Nat × Nat)) (a : Nat), a + total P ≤ 9223372036854775807 → (P.map enc).foldl (fun a p => wrap64 (a + p.2)) (a : Int) = ((a + total P : Nat) : Int) := by
    intro P
    induction P with
    | nil => intro a _; simp [total]
    | cons x P ih =>
      intro a ha
      have e : total (x :: P) = x.2 + total P := by simp [total]
      rw [e] at ha ⊢
      rw [List.map_cons, List.foldl_cons]
      show (P.map enc).foldl _ (wrap64 ((a : Int) + (x.2 : Int))) = _
      rw [w64id (by omega) (by omega), show ((a : Int) + (x.2 : Int)) = ((a + x.2 : Nat) : Int) by omega, ih (a + x.2) (by omega)]
      congr 1
      omega
  have := key P 0 (by omega)
  simpa [bits_Count.cnt] using this
theorem count_w (k : Nat) (l : List Int) (hb : Bytes l) (hl : l.length < 140737488355328) (hk : 16 * l.length + 2 ≤ k) : bits_Count.f k l = some (ones l (8 * l.length) : Int) := by
  unfold bits_Count.f
  have hmn : mn (8 * (l.length : Int)) (8 * (l.length : Int)) = ((8 * l.length : Nat) : Int) := by unfold mn; split <;> omega
  obtain ⟨a0, h1, h2⟩ := runs_w k l (8 * l.length) k hb hl (Nat.le_refl _) hk (by omega)
  have ho := ones_le l (8 * l.length)
  rw [if_pos hl, hmn, h1, Option.bind_some, h2, Option.map_some, cnt_enc _ (by rw [runR_total]; omega), runR_total]
theorem rcount_l0 (l : List Int) (hb : Bytes l) (hl : l.length < 140737488355328) (d : Nat) : ∀ (k i : Nat), i + d = 8 * l.length → d < k → atticref02_Count.l0 k l (ones l i : Nat) i = some (ones l (8 * l.length) : Int) := by
  induction d with
  | zero =>
    intro k i hi hk
    obtain ⟨k, rfl⟩ : ∃ m, k = m + 1 := ⟨k - 1, by omega⟩
    obtain rfl : i = 8 * l.length := by omega
    rw [atticref02_Count.l0, m8 hl, if_neg (by omega)]
  | succ d ih =>
    intro k i hi hk
    obtain ⟨k, rfl⟩ : ∃ m, k = m + 1 := ⟨k - 1, by omega⟩
    have h := ih k (i + 1) (by omega) (by omega)
    have ho := ones_le l i
    rw [atticref02_Count.l0, m8 hl, if_pos (by omega), rg l i hb hl (by omega), Option.bind_some, succ64 (n := i) (by omega), succ64 (n := ones l i) (by omega)]
    rw [show ones l (i + 1) = ones l i + (if bitN l i = true then 1 else 0) from rfl] at h
    by_cases e : bitN l i = true
    · rw [if_pos e] at h ⊢
      exact h
    · rw [if_neg e] at h ⊢
      exact h
theorem rcount_f (k : Nat) (l : List Int) (hb : Bytes l) (hl : l.length < 140737488355328) (hk : 8 * l.length < k) : atticref02_Count.f k l = some (ones l (8 * l.length) : Int) := by
  unfold atticref02_Count.f
  exact rcount_l0 l hb hl (8 * l.length) k 0 (by omega) hk
end Go.Proofs.Ytifeimbamibkeaa.Pure
