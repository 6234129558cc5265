/- Plain laws of rows that are made: noughts, one span, and which rows may be; for all numbers. -/
import Derived.Test.YtifeimbamibkeaaClean2
namespace Go.Proofs.Ytifeimbamibkeaa.Pure
open Go.RowKit Go.Proofs.Ytifeimbamibkeaa.PAll Go.Proofs.YtifeimbamibkeaaW.PrintWords Go.Proofs.YtifeimbamibkeaaW.PrintLast Go.Proofs.YtifeimbamibkeaaW.PrintMore
set_option linter.unusedVariables false

def newA (n : Int) : List Int × Int := if 0 ≤ n ∧ n ≤ 65536 then (List.replicate ((n.toNat + 7) / 8) 0, 0) else ([], 1)
theorem size7 (m : Nat) (h : m ≤ 65536) : wrap64 (Int.tdiv (wrap64 ((m : Int) + 7)) 8) = (((m + 7) / 8 : Nat) : Int) := by
  have e : wrap64 ((m + 7 : Nat) : Int) = ((m + 7 : Nat) : Int) := w64id (by omega) (by omega)
  rw [show (m : Int) + 7 = ((m + 7 : Nat) : Int) by omega, e, tdiv8, w64id (by omega) (by omega)]
theorem size_w (n : Int) (h : 0 ≤ n ∧ n ≤ 65536) : bits_size.f n = some ((((n.toNat + 7) / 8 : Nat) : Int), true) := by
  obtain ⟨m, rfl⟩ := Int.eq_ofNat_of_zero_le h.1
  unfold bits_size.f
  rw [if_neg (by omega), if_neg (by omega), size7 m (by omega), Int.toNat_natCast]
theorem size_n (n : Int) (h : ¬ (0 ≤ n ∧ n ≤ 65536)) : bits_size.f n = some (0, false) := by
  unfold bits_size.f
  by_cases h0 : n < 0
  · rw [if_pos h0]
  · rw [if_neg h0, if_pos (by omega)]
theorem new_w (n : Int) : bits_New.f n = some (newA n) := by
  unfold bits_New.f newA
  by_cases h : 0 ≤ n ∧ n ≤ 65536
  · rw [size_w n h, Option.bind_some, if_pos rfl, if_pos h]
    show (if 0 ≤ (((n.toNat + 7) / 8 : Nat) : Int) then (if (((n.toNat + 7) / 8 : Nat) : Int).toNat ≤ 281474976710656 then some (List.replicate (((n.toNat + 7) / 8 : Nat) : Int).toNat 0, 0) else none) else none) = _
    rw [if_pos (by omega), if_pos (by omega), Int.toNat_natCast]
  · rw [size_n n h, Option.bind_some, if_neg (by simp), if_neg h]
theorem new_r (n : Int) : atticref02_New.f n = some (newA n) := by
  unfold atticref02_New.f newA
  by_cases h : 0 ≤ n ∧ n ≤ 65536
  · obtain ⟨m, rfl⟩ := Int.eq_ofNat_of_zero_le h.1
    rw [if_neg (by omega), if_neg (by omega), size7 m (by omega), if_pos (by omega), if_pos (by omega), if_pos h, Int.toNat_natCast, Int.toNat_natCast]
  · rw [if_neg h]
    by_cases h0 : n < 0
    · rw [if_pos h0]
    · rw [if_neg h0, if_pos (by omega)]
/-- A row of k bytes with d ones from bit f. -/
def spanR (k f : Nat) : Nat → List Int
  | 0 => List.replicate k 0
  | d + 1 => putN (spanR k f d) (f + d) true
theorem spanR_length (k f : Nat) : ∀ d, (spanR k f d).length = k
  | 0 => by simp [spanR]
  | d + 1 => by rw [spanR, putN_length, spanR_length k f d]
theorem spanR_bytes (k f : Nat) : ∀ d, Bytes (spanR k f d)
  | 0 => fun x hx => by have := (List.mem_replicate.1 hx).2; omega
  | d + 1 => putN_bytes (spanR_bytes k f d) _ _
theorem zeros_bit (k t : Nat) : bitN (List.replicate k 0) t = false := by
  unfold bitN
  rw [List.getD_eq_getElem?_getD, List.getElem?_replicate]
  split <;> simp
theorem spanR_bit (k f t : Nat) : ∀ d, f + d ≤ 8 * k → bitN (spanR k f d) t = decide (f ≤ t ∧ t < f + d)
  | 0, _ => by rw [spanR, zeros_bit, decide_eq_false (by omega)]
  | d + 1, h => by
    rw [spanR, putN_bit, spanR_length, spanR_bit k f t d (by omega)]
    by_cases e : t = f + d
    · rw [if_pos ⟨e, by omega⟩, decide_eq_true (by omega)]
    · rw [if_neg (fun h2 => e h2.1)]
      exact decide_eq_decide.2 (by omega)
theorem span_l0 (len f d : Nat) (hf : f + d ≤ 8 * len) (hn : len < 140737488355328) (e : Nat) : ∀ (j K : Nat), j + e = d → e < K → bits_Span.l0 K (f : Int) (spanR len f j) (d : Int) (j : Int) = some (spanR len f d, 0) := by
  induction e with
  | zero =>
    intro j K hj hK
    obtain ⟨K, rfl⟩ : ∃ m, K = m + 1 := ⟨K - 1, by omega⟩
    obtain rfl : j = d := by omega
    rw [bits_Span.l0, if_neg (by omega)]
  | succ e ih =>
    intro j K hj hK
    obtain ⟨K, rfl⟩ : ∃ m, K = m + 1 := ⟨K - 1, by omega⟩
    have hlen := spanR_length len f j
    have h8 : (f + j) / 8 < (spanR len f j).length := by omega
    have hr := rd_byte (spanR_bytes len f j) h8
    have hs : (spanR len f j).set ((f + j) / 8) ((putB (rd (spanR len f j) (((f + j) / 8 : Nat) : Int)).toNat ((f + j) % 8) true : Nat) : Int) = spanR len f (j + 1) := by
      rw [spanR]
      unfold putN
      rw [if_pos h8]
    rw [bits_Span.l0, if_pos (by omega), show wrap64 ((f : Int) + (j : Int)) = ((f + j : Nat) : Int) by rw [w64id (by omega) (by omega)]; omega, tdiv8, tmod8, w64id (by omega) (by omega), if_pos (by omega), if_pos (by omega), if_pos (by omega), or_bit _ _ hr.1 hr.2 (by omega), Int.toNat_natCast, hs, succ64 (by omega)]
    exact ih (j + 1) K (by omega) (by omega)
theorem rspan_l0 (len f d : Nat) (hf : f + d ≤ 8 * len) (hn : len < 140737488355328) (e : Nat) : ∀ (j K : Nat), j + e = d → e + 1 < K → atticref02_Span.l0 K ((f + d : Nat) : Int) (spanR len f j) ((f + j : Nat) : Int) = some (spanR len f d, 0) := by
  induction e with
  | zero =>
    intro j K hj hK
    obtain ⟨K, rfl⟩ : ∃ m, K = m + 1 := ⟨K - 1, by omega⟩
    obtain rfl : j = d := by omega
    rw [atticref02_Span.l0, if_neg (by omega)]
  | succ e ih =>
    intro j K hj hK
    obtain ⟨K, rfl⟩ : ∃ m, K = m + 1 := ⟨K - 1, by omega⟩
    have hlen := spanR_length len f j
    have hp : putA (spanR len f j) ((f + j : Nat) : Int) true = spanR len f (j + 1) := by
      unfold putA
      rw [if_pos (by omega), Int.toNat_natCast, spanR]
    rw [atticref02_Span.l0, if_pos (by omega), rput_f K _ _ true (spanR_bytes len f j) (by omega) (by omega) (by omega), Option.bind_some, hp, succ64 (by omega)]
    exact ih (j + 1) K (by omega) (by omega)
def spanA (n f t : Int) : List Int × Int := if 0 ≤ n ∧ n ≤ 65536 ∧ 0 ≤ f ∧ f ≤ t ∧ t ≤ n then (spanR ((n.toNat + 7) / 8) f.toNat (t.toNat - f.toNat), 0) else ([], 1)
theorem spanA_two (n f t : Int) : (spanA n f t).2 = 0 ∨ (spanA n f t).2 = 1 := by
  unfold spanA
  split
  · exact .inl rfl
  · exact .inr rfl
theorem span_w (k : Nat) (n f t : Int) (hk : t.toNat + 3 ≤ k) : bits_Span.f k n f t = some (spanA n f t) := by
  unfold bits_Span.f spanA
  rw [new_w, Option.bind_some]
  unfold newA
  obtain ⟨k, rfl⟩ : ∃ m, k = m + 1 := ⟨k - 1, by omega⟩
  by_cases hn : 0 ≤ n ∧ n ≤ 65536
  · rw [if_pos hn]
    show (if (0 : Int) = 0 then (if f < 0 then bits_Span.j0 (k + 1) f t (List.replicate ((n.toNat + 7) / 8) 0) true else (if t < f then bits_Span.j0 (k + 1) f t (List.replicate ((n.toNat + 7) / 8) 0) true else bits_Span.j0 (k + 1) f t (List.replicate ((n.toNat + 7) / 8) 0) (decide (n < t)))) else some ([], 0)) = _
    rw [if_pos rfl]
    by_cases h : 0 ≤ f ∧ f ≤ t ∧ t ≤ n
    · obtain ⟨f, rfl⟩ := Int.eq_ofNat_of_zero_le h.1
      obtain ⟨t, rfl⟩ := Int.eq_ofNat_of_zero_le (show 0 ≤ t by omega)
      rw [if_neg (by omega), if_neg (by omega), decide_eq_false (by omega), bits_Span.j0, if_neg (by decide), if_pos ⟨hn.1, hn.2, h⟩, Int.toNat_natCast, Int.toNat_natCast, show wrap64 ((t : Int) - (f : Int)) = ((t - f : Nat) : Int) by rw [w64id (by omega) (by omega)]; omega]
      exact span_l0 ((n.toNat + 7) / 8) f (t - f) (by omega) (by omega) (t - f) 0 k (by omega) (by omega)
    · rw [if_neg (show ¬ (0 ≤ n ∧ n ≤ 65536 ∧ 0 ≤ f ∧ f ≤ t ∧ t ≤ n) from fun x => h x.2.2)]
      have hj : bits_Span.j0 (k + 1) f t (List.replicate ((n.toNat + 7) / 8) 0) true = some ([], 1) := by rw [bits_Span.j0, if_pos rfl]
      by_cases h1 : f < 0
      · rw [if_pos h1, hj]
      · rw [if_neg h1]
        by_cases h2 : t < f
        · rw [if_pos h2, hj]
        · rw [if_neg h2, decide_eq_true (by omega), hj]
  · rw [if_neg hn, if_neg (show ¬ (0 ≤ n ∧ n ≤ 65536 ∧ 0 ≤ f ∧ f ≤ t ∧ t ≤ n) from fun x => hn ⟨x.1, x.2.1⟩)]
    rfl
theorem span_r (k : Nat) (n f t : Int) (hk : t.toNat + 3 ≤ k) : atticref02_Span.f k n f t = some (spanA n f t) := by
  unfold atticref02_Span.f spanA
  rw [new_r, Option.bind_some]
  unfold newA
  obtain ⟨k, rfl⟩ : ∃ m, k = m + 1 := ⟨k - 1, by omega⟩
  by_cases hn : 0 ≤ n ∧ n ≤ 65536
  · rw [if_pos hn]
    show (if (0 : Int) = 0 then (if f < 0 then atticref02_Span.j0 (k + 1) f t (List.replicate ((n.toNat + 7) / 8) 0) true else (if f > t then atticref02_Span.j0 (k + 1) f t (List.replicate ((n.toNat + 7) / 8) 0) true else atticref02_Span.j0 (k + 1) f t (List.replicate ((n.toNat + 7) / 8) 0) (decide (t > n)))) else atticref02_Span.j0 (k + 1) f t (List.replicate ((n.toNat + 7) / 8) 0) true) = _
    rw [if_pos rfl]
    by_cases h : 0 ≤ f ∧ f ≤ t ∧ t ≤ n
    · obtain ⟨f, rfl⟩ := Int.eq_ofNat_of_zero_le h.1
      obtain ⟨t, rfl⟩ := Int.eq_ofNat_of_zero_le (show 0 ≤ t by omega)
      rw [if_neg (by omega), if_neg (by omega), decide_eq_false (by omega), atticref02_Span.j0, if_neg (by decide), if_pos ⟨hn.1, hn.2, h⟩, Int.toNat_natCast, Int.toNat_natCast]
      have := rspan_l0 ((n.toNat + 7) / 8) f (t - f) (by omega) (by omega) (t - f) 0 k (by omega) (by omega)
      rw [show f + (t - f) = t by omega] at this
      exact this
    · rw [if_neg (show ¬ (0 ≤ n ∧ n ≤ 65536 ∧ 0 ≤ f ∧ f ≤ t ∧ t ≤ n) from fun x => h x.2.2)]
      have hj : atticref02_Span.j0 (k + 1) f t (List.replicate ((n.toNat + 7) / 8) 0) true = some ([], 1) := by rw [atticref02_Span.j0, if_pos rfl]
      by_cases h1 : f < 0
      · rw [if_pos h1, hj]
      · rw [if_neg h1]
        by_cases h2 : f > t
        · rw [if_pos h2, hj]
        · rw [if_neg h2, decide_eq_true (by omega), hj]
  · rw [if_neg hn, if_neg (show ¬ (0 ≤ n ∧ n ≤ 65536 ∧ 0 ≤ f ∧ f ≤ t ∧ t ≤ n) from fun x => hn ⟨x.1, x.2.1⟩)]
    show (if (1 : Int) = 0 then _ else atticref02_Span.j0 (k + 1) f t [] true) = _
    rw [if_neg (by decide), atticref02_Span.j0, if_pos rfl]
theorem rcheck_l0 (l : List Int) (hb : Bytes l) (hn : l.length < 140737488355328) (e : Nat) : ∀ (i K : Nat), 8 * l.length - i = e → i < 9223372036854775807 → e < K → ∃ r, atticref02_Check.l0 K l (i : Int) = some r ∧ ((r = 0 ∧ ∀ t, i ≤ t → t < 8 * l.length → bitN l t = false) ∨ (r = 20 ∧ ∃ t, i ≤ t ∧ t < 8 * l.length ∧ bitN l t = true)) := by
  induction e with
  | zero =>
    intro i K hi hi2 hK
    obtain ⟨K, rfl⟩ : ∃ m, K = m + 1 := ⟨K - 1, by omega⟩
    rw [atticref02_Check.l0, m8 hn, if_neg (by omega)]
    exact ⟨0, rfl, .inl ⟨rfl, fun t h1 h2 => by omega⟩⟩
  | succ e ih =>
    intro i K hi hi2 hK
    obtain ⟨K, rfl⟩ : ∃ m, K = m + 1 := ⟨K - 1, by omega⟩
    rw [atticref02_Check.l0, m8 hn, if_pos (by omega), rg l i hb hn (by omega), Option.bind_some]
    by_cases hc : bitN l i = true
    · rw [if_pos hc]
      exact ⟨20, rfl, .inr ⟨rfl, i, Nat.le_refl _, by omega, hc⟩⟩
    · rw [if_neg hc, succ64 (by omega)]
      obtain ⟨r, h1, h2⟩ := ih (i + 1) K (by omega) (by omega) (by omega)
      refine ⟨r, h1, ?_⟩
      rcases h2 with ⟨rfl, h2⟩ | ⟨rfl, t, h3, h4, h5⟩
      · refine .inl ⟨rfl, fun t ht1 ht2 => ?_⟩
        by_cases et : t = i
        · subst et
          exact Bool.eq_false_iff.2 hc
        · exact h2 t (by omega) ht2
      · exact .inr ⟨rfl, t, by omega, h4, h5⟩
theorem check_both (K : Nat) (l : List Int) (n : Int) (hb : Bytes l) (hn : l.length < 140737488355328) (hK : 8 * l.length + 3 ≤ K) : ∃ r, bits_Check.f l n = some r ∧ atticref02_Check.f K l n = some r ∧ (r = 0 → 0 ≤ n ∧ n ≤ 65536 ∧ l.length = (n.toNat + 7) / 8 ∧ ∀ i, n.toNat ≤ i → bitN l i = false) := by
  unfold bits_Check.f atticref02_Check.f
  obtain ⟨K, rfl⟩ : ∃ m, K = m + 1 := ⟨K - 1, by omega⟩
  by_cases h : 0 ≤ n ∧ n ≤ 65536
  · obtain ⟨m, rfl⟩ := Int.eq_ofNat_of_zero_le h.1
    rw [size_w _ h, Option.bind_some, Int.toNat_natCast, if_neg (show ¬ ((m : Int) < 0) by omega), decide_eq_false (show ¬ ((m : Int) > 65536) by omega), atticref02_Check.j0, if_neg (show ¬ (false = true) by decide), size7 m (by omega)]
    show ∃ r, (if true = true then (if (l.length : Int) = (((m + 7) / 8 : Nat) : Int) then _ else some 20) else some 1) = some r ∧ _
    rw [if_pos rfl]
    by_cases hl : (l.length : Int) = (((m + 7) / 8 : Nat) : Int)
    · rw [if_pos hl, if_pos hl, tmod8]
      obtain ⟨r, h1, h2⟩ := rcheck_l0 l hb hn _ m K rfl (by omega) (by omega)
      have hlen : l.length = (m + 7) / 8 := by omega
      have hfin : r = 0 → (0 ≤ (m : Int) ∧ (m : Int) ≤ 65536 ∧ l.length = (m + 7) / 8 ∧ ∀ i, m ≤ i → bitN l i = false) := by
        intro hr
        subst hr
        rcases h2 with ⟨_, h2⟩ | ⟨h2, _⟩
        · refine ⟨h.1, h.2, hlen, fun i hi => ?_⟩
          by_cases h8 : i < 8 * l.length
          · exact h2 i hi h8
          · exact bitN_out (by omega)
        · cases h2
      refine ⟨r, ?_, h1, hfin⟩
      by_cases hm : m % 8 = 0
      · rw [if_pos (by omega)]
        rcases h2 with ⟨rfl, _⟩ | ⟨_, t, h3, h4, _⟩
        · rfl
        · omega
      · have hj : m / 8 < l.length := by omega
        have hx := rd_byte hb hj
        show (if ((m % 8 : Nat) : Int) = 0 then some 0 else (if 0 ≤ wrap64 ((((m + 7) / 8 : Nat) : Int) - 1) then (if wrap64 ((((m + 7) / 8 : Nat) : Int) - 1) < (l.length : Int) then (if 0 ≤ ((m % 8 : Nat) : Int) then (if shr .u8 (rd l (wrap64 ((((m + 7) / 8 : Nat) : Int) - 1))) ((m % 8 : Nat) : Int) = 0 then some 0 else some 20) else none) else none) else none)) = some r
        rw [if_neg (by omega), show wrap64 ((((m + 7) / 8 : Nat) : Int) - 1) = ((m / 8 : Nat) : Int) by rw [w64id (by omega) (by omega)]; omega, if_pos (by omega), if_pos (by omega), if_pos (by omega), shr_bit _ _ hx.1 hx.2 (by omega)]
        have hbit : ∀ t, t < 8 → bitN l (8 * (m / 8) + t) = (rd l ((m / 8 : Nat) : Int)).toNat.testBit t := by
          intro t ht
          rw [bitN_rd (by omega), show (8 * (m / 8) + t) / 8 = m / 8 by omega, show (8 * (m / 8) + t) % 8 = t by omega]
        by_cases h0 : (rd l ((m / 8 : Nat) : Int)).toNat / 2 ^ (m % 8) = 0
        · rw [if_pos (by omega)]
          rcases h2 with ⟨rfl, _⟩ | ⟨_, t, h3, h4, h5⟩
          · rfl
          · exfalso
            have h6 := hbit (t - 8 * (m / 8)) (by omega)
            rw [show 8 * (m / 8) + (t - 8 * (m / 8)) = t by omega, h5] at h6
            have h7 : (rd l ((m / 8 : Nat) : Int)).toNat < 2 ^ (m % 8) := by
              rcases Nat.lt_or_ge (rd l ((m / 8 : Nat) : Int)).toNat (2 ^ (m % 8)) with h | h
              · exact h
              · have := Nat.div_pos h (Nat.two_pow_pos _)
                omega
            rw [Nat.testBit_lt_two_pow (Nat.lt_of_lt_of_le h7 (Nat.pow_le_pow_right (by decide) (by omega)))] at h6
            cases h6
        · rw [if_neg (by omega)]
          rcases h2 with ⟨_, h2⟩ | ⟨rfl, _⟩
          · exfalso
            apply h0
            apply Nat.eq_of_testBit_eq
            intro t
            rw [Nat.zero_testBit, Nat.testBit_div_two_pow]
            by_cases h9 : t + m % 8 < 8
            · have h6 := h2 (8 * (m / 8) + (t + m % 8)) (by omega) (by omega)
              rw [hbit _ h9] at h6
              first | exact h6 | (rw [Nat.add_comm]; exact h6)
            · exact Nat.testBit_lt_two_pow (Nat.lt_of_lt_of_le (show (rd l ((m / 8 : Nat) : Int)).toNat < 2 ^ 8 by omega) (Nat.pow_le_pow_right (by decide) (by omega)))
          · rfl
    · rw [if_neg hl, if_neg hl]
      exact ⟨20, rfl, rfl, fun e => by cases e⟩
  · rw [size_n n h, Option.bind_some]
    have hj : atticref02_Check.j0 (K + 1) l n true = some 1 := by rw [atticref02_Check.j0, if_pos rfl]
    refine ⟨1, by rw [if_neg (by simp)], ?_, fun e => by cases e⟩
    by_cases h0 : n < 0
    · rw [if_pos h0, hj]
    · rw [if_neg h0, decide_eq_true (by omega), hj]
/-- What Check answers. -/
def checkA (l : List Int) (n : Int) : Int := (bits_Check.f l n).getD 0
section
variable {w : World}
theorem new_c {n : Int} {r : List Int} {e : Int} (h : newA n = (r, e)) : Calls Try.prog 12 #[.int .i64 n] w (Gives2 w r e) := by
  refine (bits_New.calls n r e w (by rw [new_w, h])).mono ?_
  rintro e w' ⟨v, rfl, ho, hb⟩
  exact gives2_of ho hb
theorem rnew_c {n : Int} {r : List Int} {e : Int} (h : newA n = (r, e)) : Calls Try.prog 13 #[.int .i64 n] w (Gives2 w r e) := by
  refine (atticref02_New.calls n r e w (by rw [new_r, h])).mono ?_
  rintro e w' ⟨v, rfl, ho, hb⟩
  exact gives2_of ho hb
theorem span_c {n f t : Int} {r : List Int} {e : Int} (h : spanA n f t = (r, e)) : Calls Try.prog 17 #[.int .i64 n, .int .i64 f, .int .i64 t] w (Gives2 w r e) := by
  refine (bits_Span.calls (t.toNat + 3) n f t r e w (by rw [span_w _ n f t (Nat.le_refl _), h])).mono ?_
  rintro e w' ⟨v, rfl, ho, hb⟩
  exact gives2_of ho hb
theorem rspan_c {n f t : Int} {r : List Int} {e : Int} (h : spanA n f t = (r, e)) : Calls Try.prog 18 #[.int .i64 n, .int .i64 f, .int .i64 t] w (Gives2 w r e) := by
  refine (atticref02_Span.calls (t.toNat + 3) n f t r e w (by rw [span_r _ n f t (Nat.le_refl _), h])).mono ?_
  rintro e w' ⟨v, rfl, ho, hb⟩
  exact gives2_of ho hb
variable {A : Option Addr} {c : Nat} {l : List Int} (hC : Kd.C (Kd.int .u8) w A l.length l) (hc : l.length ≤ c)
include hC hc
theorem check_c (hb : Bytes l) (hl : l.length < 140737488355328) (n : Int) : Calls Try.prog 15 #[.slice A l.length c, .int .i64 n] w fun e w' => e = .returned (.int .i64 (checkA l n)) ∧ Below w.heap.size w w' := by
  obtain ⟨r, h1, h2, h3⟩ := check_both (8 * l.length + 3) l n hb hl (Nat.le_refl _)
  have hr : checkA l n = r := by unfold checkA; rw [h1]; rfl
  rw [hr]
  refine (bits_Check.calls A c l n r w hC hc h1).mono ?_
  rintro e w' ⟨rfl, hd⟩
  exact ⟨rfl, drawn_below hd⟩
theorem rcheck_c (hb : Bytes l) (hl : l.length < 140737488355328) (n : Int) : Calls Try.prog 16 #[.slice A l.length c, .int .i64 n] w fun e w' => e = .returned (.int .i64 (checkA l n)) ∧ Below w.heap.size w w' := by
  obtain ⟨r, h1, h2, h3⟩ := check_both (8 * l.length + 3) l n hb hl (Nat.le_refl _)
  have hr : checkA l n = r := by unfold checkA; rw [h1]; rfl
  rw [hr]
  refine (atticref02_Check.calls (8 * l.length + 3) A c l n r w hC hc h2).mono ?_
  rintro e w' ⟨rfl, hd⟩
  exact ⟨rfl, drawn_below hd⟩
end
theorem checkA_ok {l : List Int} {n : Int} (hb : Bytes l) (hl : l.length < 140737488355328) (h : checkA l n = 0) : 0 ≤ n ∧ n ≤ 65536 ∧ l.length = (n.toNat + 7) / 8 ∧ ∀ i, n.toNat ≤ i → bitN l i = false := by
  obtain ⟨r, h1, h2, h3⟩ := check_both (8 * l.length + 3) l n hb hl (Nat.le_refl _)
  have hr : checkA l n = r := by unfold checkA; rw [h1]; rfl
  exact h3 (hr.symm.trans h)
end Go.Proofs.Ytifeimbamibkeaa.Pure
