/- a burst changes the sum -/
import Derived.Test.YtnhihiadmllnkaaPAllx5
import Derived.Test.YtnhihiadmllnkaaCrc
import Derived.Test.YtnhihiadmllnkaaNum
import Derived.Test.YtnhihiadmllnkaaBurstA
import Derived.Laws.BitsAllLaws
import Derived.Laws.Bits64
namespace Go.Proofs.Ytnhihiadmllnkaa.Pure
open Go.RowKit Go.Proofs.Ytnhihiadmllnkaa.PAll Go.Proofs.YtnhihiadmllnkaaW.PrintWords Go.Proofs.YtnhihiadmllnkaaW.PrintLast Go.Proofs.YtnhihiadmllnkaaW.PrintMore

theorem bw1 (i : Nat) (h : i < 32) : IntKind.u64.wrap ((i : Nat) : Int) = (i : Int) := u64w _ (by omega) (by omega)
theorem bw2 (a : Nat) (h : a < 4294967296) : wrap64 ((a : Nat) : Int) = (a : Int) := w64id (by omega) (by omega)
theorem bw3 (a i : Nat) (h : a < 65536) (hi : i < 32) : wrap64 ((a : Int) + (i : Int)) = ((a + i : Nat) : Int) := by rw [w64id (by omega) (by omega)]; exact (Int.natCast_add a i).symm
theorem bw4 (n : Nat) (h : n ≤ 140737488351232) : wrap64 (8 * (n : Int)) = ((8 * n : Nat) : Int) := by rw [w64id (by omega) (by omega)]; simp
theorem bw5 (i : Nat) (h : i < 32) : wrap64 ((i : Int) + 1) = ((i + 1 : Nat) : Int) := by rw [w64id (by omega) (by omega)]; simp
theorem bw6 (n : Nat) (h : n < 4294967296) : wrap64 (Int.tdiv ((n : Nat) : Int) 8) = ((n / 8 : Nat) : Int) := by
  rw [Int.tdiv_eq_ediv_of_nonneg (by omega), w64id (by omega) (by omega)]; simp
theorem bw7 (n : Nat) : IntKind.u64.wrap (Int.tmod ((n : Nat) : Int) 8) = ((n % 8 : Nat) : Int) := by
  rw [Int.tmod_eq_emod_of_nonneg (by omega), u64w _ (by omega) (by omega)]; simp
theorem burst_l0 (d : Nat) : ∀ (k : Nat) (b x : List Int) (a1 : Nat) (a2 : Int) (i W : Nat), Bytes b → Bytes x → b.length ≤ 140737488351232 → x.length = b.length → a1 < 65536 → i + d = 32 →
    Aside0 (bnum (x.map Int.toNat) = bnum (b.map Int.toNat) ^^^ (2 ^ a1 * W)) → W < 2 ^ i → (W ≠ 0 → a1 ≤ 8 * b.length) → 10 * b.length + 2 + d ≤ k →
    atticlaw01_WordBurst.l0 k b a1 a2 x (decide (W ≠ 0)) i = some true := by
  induction d with
  | zero =>
    intro k b x a1 a2 i W hb hx hl hlen ha hi hn hW hat hk
    obtain ⟨k, rfl⟩ : ∃ m, k = m + 1 := ⟨k - 1, by clear hn hW hat; omega⟩
    obtain rfl : i = 32 := by clear hn hW hat; omega
    have q1 : 10 * b.length ≤ k := by clear hn hW hat; omega
    have q2 : 10 * x.length ≤ k := by clear hn hW hat; omega
    rw [atticlaw01_WordBurst.l0, if_neg (by decide), sum_f b hb (by clear hn hW hat; omega) k (by clear hn hW hat; omega), sum_f x hx (by clear hn hW hat; omega) k (by clear hn hW hat; omega)]
    simp only [Option.bind_some]
    rw [burst_sum b x a1 W hlen hn (by clear hn hat; omega) hat]
    simp
  | succ d ih =>
    intro k b x a1 a2 i W hb hx hl hlen ha hi hn hW hat hk
    obtain ⟨k, rfl⟩ : ∃ m, k = m + 1 := ⟨k - 1, by clear hn hW hat ih; omega⟩
    have hk2 : 10 * b.length + 2 + d ≤ k := by clear hn hW hat ih; omega
    have hi2 : i + 1 + d = 32 := by clear hn hW hat ih; omega
    have hi3 : i < 32 := by clear hn hW hat ih; omega
    have hlx : x.length ≤ 140737488351232 := by clear hn hW hat ih; omega
    have hai : a1 + i < 4294967296 := by clear hn hW hat ih; omega
    have w1 := bw1 i hi3
    have w2 := bw2 a1 (Nat.lt_trans ha (by decide))
    have w3 := bw3 a1 i ha hi3
    have w4 := bw4 x.length hlx
    have w5 := bw5 i hi3
    have w6 := bw6 (a1 + i) hai
    have w7 := bw7 (a1 + i)
    have c1 : ((i : Int) < 32) = True := eq_true (Int.ofNat_lt.2 hi3)
    have c2 : ((0 : Int) ≤ (i : Int)) = True := eq_true (Int.natCast_nonneg i)
    have hp : 0 < 2 ^ i := Nat.pow_pos (by decide)
    have hps : 2 ^ i < 2 ^ (i + 1) := Nat.pow_lt_pow_right (by decide) (Nat.lt_succ_self i)
    have hW1 : W < 2 ^ (i + 1) := Nat.lt_trans hW hps
    have HOLD := Aside0.mk (ih k b x a1 a2 (i + 1) W hb hx hl hlen ha hi2 hn hW1 hat hk2)
    rw [atticlaw01_WordBurst.l0]
    simp only [w1, w2, w3, w4, w5, w6, w7, c1, c2, if_true]
    clear w1 w2 w3 w4 w5 w6 w7 c1 c2
    split
    · split
      · rename_i hbit hin
        clear hbit
        have hin2 : a1 + i < 8 * x.length := Int.ofNat_lt.1 hin
        have hq : (a1 + i) / 8 < x.length := by clear hn hW hat ih hin hW1 hp hps HOLD; omega
        have hne : W ^^^ 2 ^ i ≠ 0 := by
          intro e
          have e2 : W = 2 ^ i := by
            have := congrArg (fun z => z ^^^ 2 ^ i) e
            simpa [Nat.xor_assoc] using this
          exact absurd e2 (Nat.ne_of_lt hW)
        have hlt2 : W ^^^ 2 ^ i < 2 ^ (i + 1) := Nat.xor_lt_two_pow hW1 hps
        have hat2 : a1 ≤ 8 * b.length := by clear hn hW hat ih hin hW1 hp hps HOLD hne hlt2; omega
        have hs := burst_step x a1 i W b hx hin2 hn
        have h := ih k b _ a1 a2 (i + 1) (W ^^^ 2 ^ i) hb hs.1 hl ((List.length_set ..).trans hlen) ha hi2 hs.2 hlt2 (fun _ => hat2) hk2
        rw [decide_eq_true hne] at h
        rw [if_pos (Int.natCast_nonneg _), if_pos (Int.ofNat_lt.2 hq), if_pos (Int.natCast_nonneg _)]
        exact h
      · exact HOLD.out
    · exact HOLD.out
theorem WordBurst : atticlaw01_WordBurst.Pure := by
  intro b a1 a2 _ hl wb w1 _
  have hb := bytes_wf wb
  have ha : 0 ≤ a1 ∧ a1 < 65536 := by
    simp [Lit.wf, IntKind.min, IntKind.max, IntKind.signed, IntKind.bits] at w1
    omega
  obtain ⟨a, rfl⟩ : ∃ a : Nat, a1 = a := ⟨a1.toNat, by omega⟩
  refine ⟨10 * b.length + 34, ?_⟩
  unfold atticlaw01_WordBurst.f atticlaw01_live.f bytes_Clone.f
  simp only [Option.bind_some, if_true]
  rw [if_pos (by omega)]
  simp only [Option.bind_some]
  have h := burst_l0 32 (10 * b.length + 34) b b a a2 0 0 hb hb (by omega) rfl (by omega) (by omega) ⟨by simp⟩ (by simp) (fun h => absurd rfl h) (by omega)
  rw [show ((0 : Nat) : Int) = 0 from rfl, show decide ((0 : Nat) ≠ 0) = false from rfl] at h
  exact h
end Go.Proofs.Ytnhihiadmllnkaa.Pure
