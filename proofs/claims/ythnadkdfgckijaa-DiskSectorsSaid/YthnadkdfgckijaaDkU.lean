/- What a crash does to a sector: plain. -/
import Derived.Test.YthnadkdfgckijaaDkQ
namespace Go.Proofs.Ythnadkdfgckijaa.Pure
open Go.RowKit Go.Proofs.Ythnadkdfgckijaa Go.Proofs.Ythnadkdfgckijaa.PAll Go.Proofs.Ythnadkdfgckijaa.Mem Go.Proofs.YthnadkdfgckijaaW.PrintWords Go.Proofs.YthnadkdfgckijaaW.PrintLast Go.Proofs.YthnadkdfgckijaaW.PrintMore
set_option linter.unusedVariables false
set_option linter.unusedSimpArgs false

theorem sec_get' (b : List Int) (k i : Nat) : (sec b k)[i]? = if i < 64 then b[64 * k + i]? else none := by
  unfold sec
  rw [List.getElem?_take]
  split
  · rw [List.getElem?_drop]
  · rfl
theorem flat_get {B : List (List Int)} (h : BlkOk B) {I j : Nat} (hI : I < B.length) (hj : j < 256) : B.flatten[256 * I + j]? = (B.getD I [])[j]? := by
  induction B generalizing I with
  | nil => simp at hI
  | cons a B ih =>
    have ha := (h a (List.mem_cons_self ..)).1
    rw [List.flatten_cons]
    cases I with
    | zero =>
      rw [List.getElem?_append_left (by omega)]
      simp
    | succ I =>
      rw [List.getElem?_append_right (by omega), show 256 * (I + 1) + j - a.length = 256 * I + j by omega, ih (fun b hb => h b (List.mem_cons_of_mem _ hb)) (by simpa using hI)]
      simp
theorem sec_flat {B : List (List Int)} (h : BlkOk B) {k : Nat} (hk : k / 4 < B.length) : sec B.flatten k = sec (B.getD (k / 4) []) (k % 4) := by
  apply List.ext_getElem?
  intro i
  rw [sec_get', sec_get']
  by_cases hi : i < 64
  · rw [if_pos hi, if_pos hi, show 64 * k + i = 256 * (k / 4) + (64 * (k % 4) + i) by omega, flat_get h hk (by omega)]
  · rw [if_neg hi, if_neg hi]
theorem sec_mix {b r : List Int} (hb : b.length = 256) (hr : r.length = 256) (pick : Int) {j : Nat} (hj : j < 4) : sec (mix r b pick) j = if bitB pick j = true then sec b j else sec r j := by
  apply List.ext_getElem?
  intro i
  by_cases hi : i < 64
  · rw [sec_get', if_pos hi, mix_get hb hr pick (64 * j + i) (by omega), show (64 * j + i) / 64 = j by omega]
    split <;> rw [sec_get', if_pos hi]
  · rw [sec_get', if_neg hi]
    split <;> rw [sec_get', if_neg hi]
theorem reach_getD {B : List (List Int)} {x : Int × List Int} {pick : Int} {I : Nat} (hI : I < B.length) : (reachB B x pick).getD I [] = if x.1.toNat = I then mix (B.getD I []) x.2 pick else B.getD I [] := by
  unfold reachB
  rw [List.getD_eq_getElem?_getD, List.getElem?_set]
  by_cases e : x.1.toNat = I
  · rw [if_pos e, if_pos e, if_pos (e ▸ hI), Option.getD_some, e]
  · rw [if_neg e, if_neg e, ← List.getD_eq_getElem?_getD]
theorem fall_sec : ∀ (L : List ((Int × List Int) × Int)) (B : List (List Int)), BlkOk B → (∀ x ∈ L, 0 ≤ x.1.1 ∧ x.1.1 < (B.length : Int) ∧ x.1.2.length = 256 ∧ Bytes x.1.2) → ∀ (I j : Nat), I < B.length → j < 4 →
    sec ((fallB B L).getD I []) j = sec (B.getD I []) j ∨ ∃ i, ∃ h : i < L.length, (L[i]).1.1 = (I : Int) ∧ sec ((fallB B L).getD I []) j = sec (L[i]).1.2 j
  | [], B, hB, hL, I, j, hI, hj => .inl rfl
  | x :: L, B, hB, hL, I, j, hI, hj => by
    have hx := hL x (List.mem_cons_self ..)
    have hlen := reachB_len B x.1 x.2
    rcases fall_sec L (reachB B x.1 x.2) (reachB_ok hB hx x.2) (fun y hy => by rw [hlen]; exact hL y (List.mem_cons_of_mem _ hy)) I j (by rw [hlen]; exact hI) hj with h | ⟨i, hi, h1, h2⟩
    · rw [reach_getD hI] at h
      have e : fallB B (x :: L) = fallB (reachB B x.1 x.2) L := rfl
      rw [e]
      by_cases hxI : x.1.1.toNat = I
      · rw [if_pos hxI, sec_mix hx.2.2.1 (getD_ok hB hI).1 x.2 hj] at h
        split at h
        · exact .inr ⟨0, by simp, by show x.1.1 = _; omega, h⟩
        · exact .inl h
      · rw [if_neg hxI] at h
        exact .inl h
    · exact .inr ⟨i + 1, by simpa using hi, h1, h2⟩
/-- What the law's inner loop finds. -/
def hitS (P : List (Int × List Int)) (np k : Nat) (sN : List Int) (i : Nat) : Bool := decide (pI P i = ((k / 4 : Nat) : Int) ∧ i < np ∧ sN = sec (pB P i) (k % 4))
def okF (P : List (Int × List Int)) (np k : Nat) (sN sW : List Int) : Nat → Bool
  | 0 => decide (sN = sW)
  | i + 1 => okF P np k sN sW i || hitS P np k sN i
theorem okF_mono (P : List (Int × List Int)) (np k : Nat) (sN sW : List Int) {i : Nat} (h : okF P np k sN sW i = true) : ∀ d, okF P np k sN sW (i + d) = true
  | 0 => h
  | d + 1 => by
    show (okF P np k sN sW (i + d) || hitS P np k sN (i + d)) = true
    rw [okF_mono P np k sN sW h d, Bool.true_or]
theorem okF_end {P : List (Int × List Int)} {B : List (List Int)} {ps : List Int} (hB : BlkOk B) (hP : PenOk B.length P) {k : Nat} (hk : k / 4 < B.length) (hF : BlkOk (fallB B (P.zip ps))) : okF P ps.length k (sec (fallB B (P.zip ps)).flatten k) (sec B.flatten k) P.length = true := by
  rw [sec_flat hB hk, sec_flat hF (by rw [fallB_len]; exact hk)]
  have hmem : ∀ x ∈ P.zip ps, 0 ≤ x.1.1 ∧ x.1.1 < (B.length : Int) ∧ x.1.2.length = 256 ∧ Bytes x.1.2 := fun x hx => hP x.1 (List.of_mem_zip hx).1
  rcases fall_sec (P.zip ps) B hB hmem (k / 4) (k % 4) hk (Nat.mod_lt _ (by decide)) with h | ⟨i, hi, h1, h2⟩
  · have := okF_mono P ps.length k (sec ((fallB B (P.zip ps)).getD (k / 4) []) (k % 4)) (sec (B.getD (k / 4) []) (k % 4)) (i := 0) (decide_eq_true h) P.length
    rwa [Nat.zero_add] at this
  · rw [List.length_zip] at hi
    rw [List.getElem_zip] at h1 h2
    have hiP : i < P.length := by omega
    have e : P.getD i (0, []) = P[i] := by rw [List.getD_eq_getElem?_getD, List.getElem?_eq_getElem hiP]; rfl
    have hit : hitS P ps.length k (sec ((fallB B (P.zip ps)).getD (k / 4) []) (k % 4)) i = true := decide_eq_true ⟨by unfold pI; rw [e]; exact h1, by omega, by unfold pB; rw [e]; exact h2⟩
    have h3 : okF P ps.length k (sec ((fallB B (P.zip ps)).getD (k / 4) []) (k % 4)) (sec (B.getD (k / 4) []) (k % 4)) (i + 1) = true := by
      show (_ || hitS _ _ _ _ i) = true
      rw [hit, Bool.or_true]
    have := okF_mono _ _ _ _ _ h3 (P.length - (i + 1))
    rwa [show i + 1 + (P.length - (i + 1)) = P.length by omega] at this
/-- A part of a row, as it is read. -/
theorem C_sec {w : World} {A : Option Addr} {c n k : Nat} {l : List Int} (h : Kd.C (Kd.int .u8) w A n l) (hc : n ≤ c) (hk : 64 * k + 64 ≤ n) : Kd.C (Kd.int .u8) w (cutP A c (64 * k)) (sec l k).length (sec l k) := by
  have hn : l.length = n := h.1
  have hs : (sec l k).length = 64 := by unfold sec; rw [List.length_take, List.length_drop]; omega
  obtain ⟨ad, hA, hcell⟩ := h.2.2 (by omega)
  subst hA
  have e : cutP (some ad) c (64 * k) = some (ad.add (64 * k * 1)) := by
    unfold cutP
    rw [if_neg (by omega)]
    rfl
  rw [e]
  refine ⟨rfl, by omega, fun _ => ⟨_, rfl, fun j p hj => ?_⟩⟩
  rw [sec_get'] at hj
  by_cases hj64 : j < 64
  · rw [if_pos hj64] at hj
    obtain ⟨cs, c1, c2, c3⟩ := hcell (64 * k + j) p hj
    refine ⟨cs, c1, c2, fun i u hu => ?_⟩
    have := c3 i u hu
    rw [show (ad.add (64 * k * 1)).add (j * (Kd.int .u8).sz + i) = ad.add ((64 * k + j) * (Kd.int .u8).sz + i) from ?_]
    · exact this
    · show (ad.add (64 * k * 1)).add (j * 1 + i) = ad.add ((64 * k + j) * 1 + i)
      rw [add_add]
      congr 1
      omega
  · rw [if_neg hj64] at hj
    cases hj
theorem sec_l {l : List Int} {k n : Nat} (h : l.length = n) (hk : 64 * k + 64 ≤ n) : (sec l k).length = 64 := by unfold sec; rw [List.length_take, List.length_drop]; omega
theorem sec_bytes {l : List Int} (h : Bytes l) (k : Nat) : Bytes (sec l k) := fun x hx => h x (List.mem_of_mem_drop (List.mem_of_mem_take hx))
theorem sec_val (A : Option Addr) (c k : Nat) (h : 64 * k + 64 ≤ c) : Value.slice (Option.map (fun x => x.add (k * 64)) A) ((k + 1) * 64 - k * 64) (c - k * 64) = .slice (cutP A c (64 * k)) 64 (c - 64 * k) := by
  have e : k * 64 = 64 * k := Nat.mul_comm ..
  unfold cutP
  rw [if_neg (by omega), e, show (k + 1) * 64 - 64 * k = 64 by omega, Nat.mul_one]
attribute [local go_sem high] cutLH
theorem sec_mul {k : Nat} (h : k < 16) : wrap64 ((k : Int) * 64) = ((64 * k : Nat) : Int) ∧ wrap64 ((k : Int) + 1) = ((k + 1 : Nat) : Int) ∧ wrap64 (((k + 1 : Nat) : Int) * 64) = ((64 * k + 64 : Nat) : Int) := by
  refine ⟨?_, ?_, ?_⟩ <;> (rw [w64id (by omega) (by omega)]; omega)
set_option maxRecDepth 100000 in
theorem sector_c (w : World) (A : Option Addr) (n c k : Nat) (hk : k < 16) (h : 64 * k + 64 ≤ c) : Calls Try.prog 24 #[.slice A n c, .int .i64 (k : Int)] w fun e w' => e = .returned (.slice (cutP A c (64 * k)) 64 (c - 64 * k)) ∧ w' = w := by
  obtain ⟨q1, q2, q3⟩ := sec_mul hk
  have q2' : wrap64 ((k : Int) + 1) = (k : Int) + 1 := by rw [q2]; rfl
  have q3' : wrap64 (((k : Int) + 1) * 64) = ((64 * k + 64 : Nat) : Int) := q3
  have e1 : 64 * k + 64 - 64 * k = 64 := by omega
  have e2 : 64 * k ≤ 64 * k + 64 := by omega
  have hs := cutLH A n c (64 * k) (64 * k + 64) e2 h
  rw [e1] at hs
  clear q2 q3 e1 e2
  go_enter Try.func24, Try.ntmps24
  go_wp2_with fail
  go_ret
  refine ⟨?_, rfl⟩
  show Ending.returned (.slice (Option.map (fun x => x.add (k * 64)) A) ((k + 1) * 64 - k * 64) (c - k * 64)) = _
  exact congrArg Ending.returned (sec_val A c k h)
end Go.Proofs.Ythnadkdfgckijaa.Pure
