/- Plain lemmas on numbers of seven bits a byte: what TakeUvar and Uvar answer, and there and back; for all 64-bit numbers and all rows of bytes up to 140737488351300. -/
import Derived.Test.YtnhihiadmllnkaaPAllx8
import Derived.Test.YtnhihiadmllnkaaCrc
import Derived.Test.YtnhihiadmllnkaaNum
import Derived.Laws.BitsAllLaws
import Derived.Laws.Bits64
namespace Go.Proofs.Ytnhihiadmllnkaa.Pure
open Go.RowKit Go.Proofs.Ytnhihiadmllnkaa.PAll Go.Proofs.YtnhihiadmllnkaaW.PrintWords Go.Proofs.YtnhihiadmllnkaaW.PrintLast Go.Proofs.YtnhihiadmllnkaaW.PrintMore

theorem take_j1 (d : Nat)
    (ih : ∀ (k : Nat) (v i : Nat) (l : List Int), Bytes l → l.length ≤ 140737488351300 → v < 2 ^ (7 * i) → i ≤ 9 → i + d = min l.length 10 → 2 * d + 1 ≤ k →
      ∃ r, word_TakeUvar.l0 k v (l.take (min l.length 10)) (min l.length 10 : Nat) i = some r ∧ atticref01_TakeUvar.l0 k l v i = some r)
    (k v i : Nat) (l : List Int) (c : Int) (bad : Bool) (hb : Bytes l) (hl : l.length ≤ 140737488351300) (hv : v < 2 ^ (7 * i)) (hi : i ≤ 9) (hd : i + (d + 1) = min l.length 10) (hk : 2 * d + 2 ≤ k)
    (hc : 0 ≤ c ∧ c < 256) (h9 : bad = false → i = 9 → c ≤ 1) :
    ∃ r, word_TakeUvar.j1 k v i c (l.take (min l.length 10)) (min l.length 10 : Nat) i bad = some r ∧ atticref01_TakeUvar.j1 k l v i c bad = some r := by
  obtain ⟨k, rfl⟩ : ∃ m, k = m + 1 := ⟨k - 1, by omega⟩
  rw [word_TakeUvar.j1, atticref01_TakeUvar.j1]
  cases bad with
  | true => exact ⟨_, rfl, rfl⟩
  | false =>
    rw [if_neg (show ¬ (false = true) by decide), if_neg (show ¬ (false = true) by decide)]
    have h7 : wrap64 (7 * (i : Int)) = ((7 * i : Nat) : Int) := by rw [w64id (by omega) (by omega)]; simp
    rw [h7, u64w ((7 * i : Nat) : Int) (by omega) (by omega), if_pos (show (0 : Int) ≤ ((7 * i : Nat) : Int) by omega), if_pos (show (0 : Int) ≤ ((7 * i : Nat) : Int) by omega), and127 c hc.1 hc.2, Int.tmod_eq_emod_of_nonneg hc.1, u64w (c % 128) (by omega) (by omega), show (c % 128) = ((c.toNat % 128 : Nat) : Int) by omega]
    have hp : 2 ^ (7 * i) ≤ 2 ^ 63 := Nat.pow_le_pow_right (by decide) (by omega)
    have hp2 : v + (c.toNat % 128) * 2 ^ (7 * i) < 18446744073709551616 ∧ v + (c.toNat % 128) * 2 ^ (7 * i) < 2 ^ (7 * (i + 1)) ∨ (i = 9 ∧ v + (c.toNat % 128) * 2 ^ (7 * i) < 18446744073709551616) := by
      by_cases e : i = 9
      · right
        have := h9 rfl e
        subst e
        refine ⟨rfl, ?_⟩
        have : c.toNat % 128 ≤ 1 := by omega
        have := Nat.mul_le_mul_right (2 ^ (7 * 9)) this
        omega
      · left
        have h1 : 2 ^ (7 * (i + 1)) = 128 * 2 ^ (7 * i) := by rw [show 7 * (i + 1) = 7 * i + 7 by omega, Nat.pow_add, Nat.mul_comm]
        have h2 : (c.toNat % 128) * 2 ^ (7 * i) ≤ 127 * 2 ^ (7 * i) := Nat.mul_le_mul_right _ (by omega)
        have h3 : 2 ^ (7 * (i + 1)) ≤ 2 ^ 63 := Nat.pow_le_pow_right (by decide) (by omega)
        omega
    have hlt : v + (c.toNat % 128) * 2 ^ (7 * i) < 18446744073709551616 := by rcases hp2 with h | h <;> exact (by omega)
    rw [or_shl v _ _ (by omega) hv (by omega) (by omega), add_shl v _ _ (by omega) hlt, w64_succ (by omega) (by omega)]
    by_cases hs : c < 128
    · rw [if_pos hs, if_pos hs]
      exact ⟨_, rfl, rfl⟩
    · rw [if_neg hs, if_neg hs]
      have hi9 : i ≠ 9 := fun e => by have := h9 rfl e; omega
      rw [show ((i : Int) + 1) = ((i + 1 : Nat) : Int) by omega]
      refine ih k _ (i + 1) l hb hl ?_ (by omega) (by omega) (by omega)
      rcases hp2 with h | h
      · exact h.2
      · exact absurd h.1 hi9
theorem take_l0 (d : Nat) : ∀ (k : Nat) (v i : Nat) (l : List Int), Bytes l → l.length ≤ 140737488351300 → v < 2 ^ (7 * i) → i ≤ 9 → i + d = min l.length 10 → 2 * d + 1 ≤ k →
      ∃ r, word_TakeUvar.l0 k v (l.take (min l.length 10)) (min l.length 10 : Nat) i = some r ∧ atticref01_TakeUvar.l0 k l v i = some r := by
  induction d with
  | zero =>
    intro k v i l hb hl hv hi hd hk
    obtain ⟨k, rfl⟩ : ∃ m, k = m + 1 := ⟨k - 1, by omega⟩
    rw [word_TakeUvar.l0, atticref01_TakeUvar.l0, if_neg (by omega), if_neg (by omega)]
    exact ⟨_, rfl, rfl⟩
  | succ d ih =>
    intro k v i l hb hl hv hi hd hk
    obtain ⟨k, rfl⟩ : ∃ m, k = m + 1 := ⟨k - 1, by omega⟩
    have hlt : i < l.length := by omega
    have hc := hb _ (List.getElem_mem hlt)
    have c1 : ((i : Int) < ((min l.length 10 : Nat) : Int)) = True := eq_true (by omega)
    have c2 : ((0 : Int) ≤ (i : Int)) = True := eq_true (by omega)
    have c3 : ((i : Int) < ((l.take (min l.length 10)).length : Int)) = True := eq_true (by simp only [List.length_take]; omega)
    have c4 : ((i : Int) < (l.length : Int)) = True := eq_true (by omega)
    have c5 : rd (l.take (min l.length 10)) (i : Int) = l[i] := (rd_take (by omega)).trans (rd_nat hlt)
    have c6 : rd l (i : Int) = l[i] := rd_nat hlt
    rw [word_TakeUvar.l0, atticref01_TakeUvar.l0]
    simp only [c1, c2, c3, c4, c5, c6, if_true]
    by_cases e : (i : Int) = 9
    · by_cases e1 : l[i] > 1
      · simp only [e1, if_true, if_pos e]
        exact take_j1 d ih k v i l _ true hb hl hv hi hd (by omega) hc (by simp)
      · have e0 : ((i : Int) > 0) = True := eq_true (by omega)
        simp only [e1, e0, if_true, if_false, if_pos e]
        exact take_j1 d ih k v i l _ _ hb hl hv hi hd (by omega) hc (fun _ _ => by omega)
    · by_cases e0 : (i : Int) > 0
      · simp only [e0, if_true, if_neg e]
        exact take_j1 d ih k v i l _ _ hb hl hv hi hd (by omega) hc (fun _ h => absurd h (by omega))
      · simp only [e0, if_false, if_neg e]
        exact take_j1 d ih k v i l _ _ hb hl hv hi hd (by omega) hc (fun _ h => absurd h (by omega))
theorem take_f (l : List Int) (hb : Bytes l) (hl : l.length ≤ 140737488351300) (k : Nat) (hk : 21 ≤ k) : ∃ r, word_TakeUvar.f k l = some r ∧ atticref01_TakeUvar.f k l = some r := by
  have hm : mn (l.length : Int) 10 = ((min l.length 10 : Nat) : Int) := by unfold mn; split <;> omega
  unfold word_TakeUvar.f atticref01_TakeUvar.f
  rw [hm, if_pos (by omega), if_pos (by omega), Int.toNat_natCast, List.length_take, show min (min l.length 10) l.length = min l.length 10 by omega]
  exact take_l0 (min l.length 10) k 0 0 l hb hl (by simp) (by omega) (by omega) (by omega)
/-! ### There and back: numbers of seven bits a byte -/
def uv (v : Nat) : List Int := if h : v < 128 then [(v : Int)] else ((v % 128 + 128 : Nat) : Int) :: uv (v / 128)
termination_by v
decreasing_by omega
theorem uv_small {v : Nat} (h : v < 128) : uv v = [(v : Int)] := by rw [uv, dif_pos h]
theorem uv_big {v : Nat} (h : ¬ v < 128) : uv v = ((v % 128 + 128 : Nat) : Int) :: uv (v / 128) := by rw [uv, dif_neg h]
theorem uvar_val (d : Nat) : ∀ (k v : Nat) (acc : List Int), v < 128 ^ (d + 1) → acc.length + d < 140737488355328 → d < k → word_Uvar.l0 k v acc = some (acc ++ uv v) := by
  induction d with
  | zero =>
    intro k v acc h1 hl hk
    obtain ⟨k, rfl⟩ : ∃ m, k = m + 1 := ⟨k - 1, by omega⟩
    have hv : v < 128 := by omega
    rw [word_Uvar.l0, if_neg (by omega), if_pos (by omega), uv_small hv, show ((v : Int) % 256) = (v : Int) by omega]
  | succ d ih =>
    intro k v acc h1 hl hk
    obtain ⟨k, rfl⟩ : ∃ m, k = m + 1 := ⟨k - 1, by omega⟩
    rw [word_Uvar.l0]
    by_cases h : v < 128
    · rw [if_neg (by omega), if_pos (by omega), uv_small h, show ((v : Int) % 256) = (v : Int) by omega]
    · have hp : 128 ^ (d + 1 + 1) = 128 ^ (d + 1) * 128 := Nat.pow_succ 128 (d + 1)
      have hq : v / 128 < 128 ^ (d + 1) := by omega
      rw [if_pos (by omega), if_pos (by omega), or128, show ((v : Int) / 128) = ((v / 128 : Nat) : Int) by omega, ih k (v / 128) _ hq (by simp; omega) (by omega), uv_big h, List.append_assoc]
      rw [show ((v : Int) % 128 + 128) = ((v % 128 + 128 : Nat) : Int) by omega]
      rfl
theorem uv_bytes (v : Nat) : Bytes (uv v) := by
  induction v using Nat.strongRecOn with
  | ind v ih =>
    by_cases h : v < 128
    · rw [uv_small h]
      intro x hx
      rw [List.mem_singleton.1 hx]
      omega
    · rw [uv_big h]
      intro x hx
      rcases List.mem_cons.1 hx with rfl | hx
      · omega
      · exact ih (v / 128) (by omega) x hx
theorem uv_length (d : Nat) : ∀ v, v < 128 ^ (d + 1) → (uv v).length ≤ d + 1 := by
  induction d with
  | zero => intro v h; rw [uv_small (by omega)]; simp
  | succ d ih =>
    intro v h
    by_cases hv : v < 128
    · rw [uv_small hv]; simp
    · rw [uv_big hv, List.length_cons]
      have hp : 128 ^ (d + 1 + 1) = 128 ^ (d + 1) * 128 := Nat.pow_succ 128 (d + 1)
      have := ih (v / 128) (by omega)
      omega
/-- What TakeUvar answers, from the i-th byte on. -/
def tk : Nat → Nat → List Int → Nat × Nat × Nat
  | _, _, [] => (0, 0, 10)
  | i, w, c :: l => if (i = 9 ∧ c > 1) ∨ (i > 0 ∧ c = 0) then (0, 0, 13) else if c < 128 then (w + c.toNat % 128 * 2 ^ (7 * i), i + 1, 0) else tk (i + 1) (w + c.toNat % 128 * 2 ^ (7 * i)) l
def tkI (r : Nat × Nat × Nat) : Int × Int × Int := ((r.1 : Int), (r.2.1 : Int), (r.2.2 : Int))
theorem seven_room {c : Int} {w i : Nat} (hv : w < 2 ^ (7 * i)) (hi : i ≤ 9) (h9 : i = 9 → c ≤ 1) (hc : 0 ≤ c ∧ c < 256) :
    w + c.toNat % 128 * 2 ^ (7 * i) < 18446744073709551616 ∧ (i ≠ 9 → w + c.toNat % 128 * 2 ^ (7 * i) < 2 ^ (7 * (i + 1))) := by
  have hp : 2 ^ (7 * i) ≤ 2 ^ 63 := Nat.pow_le_pow_right (by decide) (by omega)
  by_cases e : i = 9
  · have h1 := h9 e
    subst e
    have h2 : c.toNat % 128 ≤ 1 := by omega
    have := Nat.mul_le_mul_right (2 ^ (7 * 9)) h2
    exact ⟨by omega, fun h => absurd rfl h⟩
  · have h1 : 2 ^ (7 * (i + 1)) = 128 * 2 ^ (7 * i) := by rw [show 7 * (i + 1) = 7 * i + 7 by omega, Nat.pow_add, Nat.mul_comm]
    have h2 : (c.toNat % 128) * 2 ^ (7 * i) ≤ 127 * 2 ^ (7 * i) := Nat.mul_le_mul_right _ (by omega)
    have h3 : 2 ^ (7 * (i + 1)) ≤ 2 ^ 63 := Nat.pow_le_pow_right (by decide) (by omega)
    exact ⟨by omega, fun _ => by omega⟩
theorem take_val (d : Nat) : ∀ (k w i : Nat) (l : List Int), Bytes l → l.length ≤ 140737488355000 → w < 2 ^ (7 * i) → i ≤ 9 → i + d = min l.length 10 → 2 * d + 1 ≤ k → atticref01_TakeUvar.l0 k l w i = some (tkI (tk i w (l.drop i))) := by
  induction d with
  | zero =>
    intro k w i l hb hl hv hi hd hk
    obtain ⟨k, rfl⟩ : ∃ m, k = m + 1 := ⟨k - 1, by omega⟩
    rw [atticref01_TakeUvar.l0, if_neg (by omega), List.drop_of_length_le (by omega)]
    rfl
  | succ d ih =>
    intro k w i l hb hl hv hi hd hk
    obtain ⟨k, rfl⟩ : ∃ m, k = (m + 1) + 1 := ⟨k - 2, by omega⟩
    have hlt : i < l.length := by omega
    have hc := hb _ (List.getElem_mem hlt)
    have c2 : ((0 : Int) ≤ (i : Int)) = True := eq_true (by omega)
    have c4 : ((i : Int) < (l.length : Int)) = True := eq_true (by omega)
    have c6 : rd l (i : Int) = l[i] := rd_nat hlt
    rw [atticref01_TakeUvar.l0, List.drop_eq_getElem_cons hlt]
    simp only [c2, c4, c6, if_true]
    have key : ∀ bad : Bool, (bad = true ↔ ((i = 9 ∧ l[i] > 1) ∨ (i > 0 ∧ l[i] = 0))) → atticref01_TakeUvar.j1 (k + 1) l w i l[i] bad = some (tkI (tk i w (l[i] :: l.drop (i + 1)))) := by
      intro bad hbad
      rw [atticref01_TakeUvar.j1, tk]
      cases bad with
      | true => rw [if_pos rfl, if_pos (hbad.1 rfl)]; rfl
      | false =>
        have hnb : ¬ ((i = 9 ∧ l[i] > 1) ∨ (i > 0 ∧ l[i] = 0)) := fun h => by have := hbad.2 h; cases this
        obtain ⟨r1, r2⟩ := seven_room (c := l[i]) hv hi (fun e => by omega) hc
        have h7 : wrap64 (7 * (i : Int)) = ((7 * i : Nat) : Int) := by rw [w64id (by omega) (by omega)]; simp
        rw [if_neg (show ¬ (false = true) by decide), if_neg hnb, h7, u64w ((7 * i : Nat) : Int) (by omega) (by omega), if_pos (show (0 : Int) ≤ ((7 * i : Nat) : Int) by omega), Int.tmod_eq_emod_of_nonneg hc.1, u64w (l[i] % 128) (by omega) (by omega), show (l[i] % 128) = ((l[i].toNat % 128 : Nat) : Int) by omega, add_shl w _ _ (by omega) r1, w64_succ (by omega) (by omega)]
        by_cases hs : l[i] < 128
        · rw [if_pos hs, if_pos hs]
          rfl
        · rw [if_neg hs, if_neg hs, show ((i : Int) + 1) = ((i + 1 : Nat) : Int) by omega]
          exact ih k _ (i + 1) l hb hl (r2 (fun e => by omega)) (by omega) (by omega) (by omega)
    by_cases e : (i : Int) = 9
    · by_cases e1 : l[i] > 1
      · simp only [e1, if_true, if_pos e]
        exact key true (by simp; omega)
      · have e0 : ((i : Int) > 0) = True := eq_true (by omega)
        simp only [e1, e0, if_true, if_false, if_pos e]
        exact key _ (by rw [beq_iff_eq]; omega)
    · by_cases e0 : (i : Int) > 0
      · simp only [e0, if_true, if_neg e]
        exact key _ (by rw [beq_iff_eq]; omega)
      · simp only [e0, if_false, if_neg e]
        exact key false (by simp; omega)
theorem take_uv (v : Nat) : ∀ (i w : Nat) (l : List Int), v * 2 ^ (7 * i) < 18446744073709551616 → i ≤ 9 → (i = 0 ∨ 0 < v) → tk i w (uv v ++ l) = (w + v * 2 ^ (7 * i), i + (uv v).length, 0) := by
  induction v using Nat.strongRecOn with
  | ind v ih =>
    intro i w l h hi h0
    by_cases hv : v < 128
    · rw [uv_small hv]
      show tk i w ((v : Int) :: l) = _
      have h9 : i = 9 → v ≤ 1 := fun e => by subst e; omega
      rw [tk, if_neg (by omega), if_pos (by omega), Int.toNat_natCast, Nat.mod_eq_of_lt hv]
      rfl
    · rw [uv_big hv]
      show tk i w (((v % 128 + 128 : Nat) : Int) :: (uv (v / 128) ++ l)) = _
      have h9 : i ≠ 9 := fun e => by subst e; omega
      have hpw : 2 ^ (7 * (i + 1)) = 128 * 2 ^ (7 * i) := by rw [show 7 * (i + 1) = 7 * i + 7 by omega, Nat.pow_add, Nat.mul_comm]
      have hdm : v = 128 * (v / 128) + v % 128 := (Nat.div_add_mod v 128).symm
      have hsum : v * 2 ^ (7 * i) = (v / 128) * (128 * 2 ^ (7 * i)) + v % 128 * 2 ^ (7 * i) := by
        conv => lhs; rw [hdm]
        rw [Nat.add_mul, Nat.mul_comm 128 (v / 128), Nat.mul_assoc]
      rw [tk, if_neg (by omega), if_neg (by omega), Int.toNat_natCast, show (v % 128 + 128) % 128 = v % 128 by omega, ih (v / 128) (by omega) (i + 1) _ l (by rw [hpw]; omega) (by omega) (by omega), hpw, List.length_cons, hsum]
      refine Prod.ext ?_ (Prod.ext ?_ rfl)
      · show w + v % 128 * 2 ^ (7 * i) + v / 128 * (128 * 2 ^ (7 * i)) = _
        omega
      · show i + 1 + (uv (v / 128)).length = i + ((uv (v / 128)).length + 1)
        omega
theorem take_back : ∀ (l : List Int) (i w : Nat), Bytes l → i ≤ 9 → ∀ y m, tk i w l = (y, m, 0) → ∃ u j, m = i + j ∧ j ≤ l.length ∧ i + j ≤ 10 ∧ u < 128 ^ j ∧ uv u = l.take j ∧ y = w + u * 2 ^ (7 * i) ∧ (i = 0 ∨ 0 < u)
  | [], i, w, _, _, y, m, h => by simp [tk] at h
  | c :: l, i, w, hb, hi, y, m, h => by
    have hc := hb c List.mem_cons_self
    rw [tk] at h
    by_cases hbad : (i = 9 ∧ c > 1) ∨ (i > 0 ∧ c = 0)
    · rw [if_pos hbad] at h
      simp at h
    · rw [if_neg hbad] at h
      by_cases hs : c < 128
      · rw [if_pos hs] at h
        obtain ⟨rfl, h2⟩ := Prod.mk.inj h
        obtain ⟨rfl, _⟩ := Prod.mk.inj h2
        refine ⟨c.toNat, 1, rfl, by simp, by omega, by omega, ?_, by rw [Nat.mod_eq_of_lt (by omega)], by omega⟩
        rw [uv_small (by omega)]
        simp
        omega
      · rw [if_neg hs] at h
        obtain ⟨u, j, h1, h2, h3, h4, h5, h6, h7⟩ := take_back l (i + 1) _ (fun x hx => hb x (List.mem_cons_of_mem _ hx)) (by omega) y m h
        have hu : 0 < u := by omega
        have hpw : 2 ^ (7 * (i + 1)) = 128 * 2 ^ (7 * i) := by rw [show 7 * (i + 1) = 7 * i + 7 by omega, Nat.pow_add, Nat.mul_comm]
        refine ⟨c.toNat % 128 + 128 * u, j + 1, by omega, by rw [List.length_cons]; omega, by omega, ?_, ?_, ?_, by omega⟩
        · rw [Nat.pow_succ]; omega
        · rw [uv_big (by omega), List.take_succ_cons, show (c.toNat % 128 + 128 * u) / 128 = u by omega, h5, show (((c.toNat % 128 + 128 * u) % 128 + 128 : Nat) : Int) = c by omega]
        · rw [h6, hpw, Nat.add_mul, Nat.mul_comm 128 u, Nat.mul_assoc u 128]
          omega
theorem take_full (l : List Int) (hb : Bytes l) (hl : l.length ≤ 140737488351300) (k : Nat) (hk : 21 ≤ k) : word_TakeUvar.f k l = some (tkI (tk 0 0 l)) := by
  obtain ⟨r, h1, h2⟩ := take_f l hb hl k hk
  have h3 := take_val (min l.length 10) k 0 0 l hb (by omega) (by simp) (by omega) (by omega) (by omega)
  have h4 : atticref01_TakeUvar.f k l = some (tkI (tk 0 0 l)) := h3
  rw [h1, ← h2, h4]
end Go.Proofs.Ytnhihiadmllnkaa.Pure
