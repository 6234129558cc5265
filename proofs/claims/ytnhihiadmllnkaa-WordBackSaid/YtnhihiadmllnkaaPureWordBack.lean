/- The law WordBack, over numbers and lists alone: numbers, numbers in as few bytes as can be, and sealed bytes are read as they were, whatever stands behind; what is taken is the number's one form; for all numbers and all rows of bytes. -/
import Derived.Test.YtnhihiadmllnkaaPAllx12
import Derived.Test.YtnhihiadmllnkaaSealed
import Derived.Test.YtnhihiadmllnkaaTake
import Derived.Laws.BitsAllLaws
import Derived.Laws.Bits64
namespace Go.Proofs.Ytnhihiadmllnkaa.Pure
open Go.RowKit Go.Proofs.Ytnhihiadmllnkaa.PAll Go.Proofs.YtnhihiadmllnkaaW.PrintWords Go.Proofs.YtnhihiadmllnkaaW.PrintLast Go.Proofs.YtnhihiadmllnkaaW.PrintMore

theorem back_j1 (k : Nat) (l : List Int) (hb : Bytes l) (hl : l.length ≤ 140737488351300) (hk : 22 ≤ k) : atticlaw01_WordBack.j1 k l false = some true := by
  obtain ⟨k, rfl⟩ : ∃ m, k = m + 1 := ⟨k - 1, by omega⟩
  rw [atticlaw01_WordBack.j1, if_neg (show ¬ (false = true) by decide), take_full l hb hl k (by omega)]
  simp only [Option.bind_some]
  obtain ⟨y, m, e, he⟩ : ∃ y m e, tk 0 0 l = (y, m, e) := ⟨_, _, _, rfl⟩
  rw [he]
  show (if ((e : Nat) : Int) = 0 then _ else _) = _
  by_cases h0 : e = 0
  · subst h0
    obtain ⟨u, j, h1, h2, h3, h4, h5, h6, _⟩ := take_back l 0 0 hb (by omega) y m he
    have hy : y = u := by simpa using h6
    have hj : m = j := by omega
    subst hy
    subst hj
    have hp : 128 ^ m ≤ 128 ^ 10 := Nat.pow_le_pow_right (by decide) (by omega)
    have hu : word_Uvar.f k (y : Int) = some (uv y) := by
      have := uvar_val 9 k y [] (by omega) (by simp) (by omega)
      simpa [word_Uvar.f] using this
    rw [if_pos (show ((0 : Nat) : Int) = 0 from rfl)]
    show (if ((m : Nat) : Int) ≤ (l.length : Int) then _ else _) = _
    rw [if_pos (by omega)]
    show (if ((m : Nat) : Int) ≥ 0 then _ else _) = _
    rw [if_pos (by omega)]
    show ((word_Uvar.f k (y : Int)).bind fun t281 => (if 0 ≤ ((m : Nat) : Int) then ((bytes_Equal.f t281 (l.take ((m : Nat) : Int).toNat)).bind fun t285 => some t285) else none)) = _
    rw [hu]
    simp only [Option.bind_some]
    rw [if_pos (by omega), Int.toNat_natCast, ← h5, equal_self]
    rfl
  · rw [if_neg (by omega)]
theorem back_j0 (k : Nat) (l : List Int) (hb : Bytes l) (hl : l.length ≤ 140737488351300) (hk : 10 * (l.length + 4) + 40 ≤ k) : atticlaw01_WordBack.j0 k l false = some true := by
  obtain ⟨k, rfl⟩ : ∃ m, k = m + 1 := ⟨k - 1, by omega⟩
  obtain ⟨s1, _⟩ := seal_f l hb (by omega) k (by omega)
  obtain ⟨v1, _⟩ := unseal_f (sealA l) (seal_bytes hb) (by rw [seal_length]; omega) k (by rw [seal_length]; omega)
  rw [unseal_seal l hb] at v1
  rw [atticlaw01_WordBack.j0, if_neg (show ¬ (false = true) by decide), s1]
  simp only [Option.bind_some]
  rw [v1]
  simp only [Option.bind_some, if_true, equal_self]
  exact back_j1 k l hb hl (by omega)
theorem back_get (l : List Int) (v K : Nat) (h1 : 1 ≤ K) (h8 : K ≤ 8) : getA (numL K v ++ l) 0 (K : Int) = (((v % 256 ^ K : Nat) : Int), true) := by
  unfold getA
  rw [if_neg (by simp [numL_length]; omega), show (0 : Int).toNat = 0 from rfl, Int.toNat_natCast]
  unfold getL
  rw [List.drop_zero, List.take_left' (numL_length K v), gnum_numL]
theorem WordBack : atticlaw01_WordBack.Pure := by
  intro a0 a1 l w0 w1 _ hl wl
  have hb := bytes_wf wl
  have hv : 0 ≤ a0 ∧ a0 < 18446744073709551616 := by
    simp [Lit.wf, IntKind.min, IntKind.max, IntKind.signed, IntKind.bits] at w0
    omega
  have hn : 0 ≤ a1 ∧ a1 < 256 := by
    simp [Lit.wf, IntKind.min, IntKind.max, IntKind.signed, IntKind.bits] at w1
    omega
  clear w0 w1 wl
  obtain ⟨v, rfl⟩ : ∃ v : Nat, a0 = v := ⟨a0.toNat, by omega⟩
  obtain ⟨K, hK, h1, h8⟩ : ∃ K : Nat, wrap64 (1 + Int.tmod (wrap64 a1) 8) = (K : Int) ∧ 1 ≤ K ∧ K ≤ 8 := by
    rw [w64id (x := a1) (by omega) (by omega), Int.tmod_eq_emod_of_nonneg hn.1, w64id (by omega) (by omega)]
    exact ⟨(1 + a1 % 8).toNat, by omega, by omega, by omega⟩
  refine ⟨10 * (l.length + 20) + 60, ?_⟩
  generalize hk : 10 * (l.length + 20) + 60 = k
  have c1 := num_f k (K : Int) v (by omega)
  rw [if_neg (by omega), Int.toNat_natCast] at c1
  have c2 := (get_f k (numL K v ++ l) 0 (K : Int) (bytes_append (numL_bytes _ _) hb) (by rw [List.length_append, numL_length]; omega) (by omega)).1
  rw [back_get l v K h1 h8] at c2
  have c3 : word_Uvar.f k (v : Int) = some (uv v) := by
    have := uvar_val 9 k v [] (by omega) (by simp) (by omega)
    simpa [word_Uvar.f] using this
  have hul := uv_length 9 v (by omega)
  have c4 := take_full (uv v ++ l) (bytes_append (uv_bytes v) hb) (by rw [List.length_append]; omega) k (by omega)
  rw [take_uv v 0 0 l (by omega) (by omega) (.inl rfl)] at c4
  have c5 := back_j0 k l hb (by omega) (by omega)
  have w3 : wrap64 (8 * (K : Int)) = ((8 * K : Nat) : Int) := u64_nonneg_wrap8 K h8
  have w4 : IntKind.u64.wrap ((8 * K : Nat) : Int) = ((8 * K : Nat) : Int) := u64w _ (by omega) (by omega)
  have p1 : (numL K v).length + l.length < 140737488355328 := by rw [numL_length]; omega
  have p2 : (uv v).length + l.length < 140737488355328 := by omega
  have p3 : ((0 : Int) ≤ ((8 * K : Nat) : Int)) = True := eq_true (by omega)
  have t1 : tkI (0 + v * 2 ^ (7 * 0), 0 + (uv v).length, 0) = ((v : Int), (((uv v).length : Nat) : Int), 0) := by simp [tkI]
  rw [t1] at c4
  unfold atticlaw01_WordBack.f atticlaw01_live.f
  rw [hK, w3, w4]
  simp only [Option.bind_some, if_true, c1, if_pos p1, c2, c3, if_pos p2, c4, p3]
  by_cases e8 : K = 8
  · subst e8
    have hmod : v % 256 ^ 8 = v := Nat.mod_eq_of_lt (by omega)
    rw [hmod, if_neg (by omega), if_pos (by omega)]
    simp [c5]
  · have hlt : (256 : Nat) ^ K ≤ 256 ^ 7 := Nat.pow_le_pow_right (by decide) (by omega)
    have hpos : 0 < (256 : Nat) ^ K := Nat.pow_pos (by decide)
    have hs : shl .u64 1 ((8 * K : Nat) : Int) = ((256 ^ K : Nat) : Int) := by
      have := shl_u64 1 (8 * K) (by omega) (by rw [pow8]; omega)
      rw [pow8, Nat.one_mul] at this
      exact this
    rw [hs, if_pos (by omega), if_neg (by omega), Int.tmod_eq_emod_of_nonneg (by omega), if_pos (by omega), if_neg (by omega)]
    simp [c5]
end Go.Proofs.Ytnhihiadmllnkaa.Pure
