/- plain helpers -/
import Derived.Test.YtnhihiadmllnkaaPAllx5
import Derived.Test.YtnhihiadmllnkaaCrc
import Derived.Test.YtnhihiadmllnkaaNum
import Derived.Laws.BitsAllLaws
import Derived.Laws.Bits64
namespace Go.Proofs.Ytnhihiadmllnkaa.Pure
open Go.RowKit Go.Proofs.Ytnhihiadmllnkaa.PAll Go.Proofs.YtnhihiadmllnkaaW.PrintWords Go.Proofs.YtnhihiadmllnkaaW.PrintLast Go.Proofs.YtnhihiadmllnkaaW.PrintMore

theorem bnum_set : ∀ (l : List Int) (q : Nat) (m : Nat) (h : q < l.length), bnum ((l.set q ((((l[q].toNat) ^^^ m : Nat)) : Int)).map Int.toNat) = bnum (l.map Int.toNat) ^^^ (256 ^ q * m)
  | [], q, m, h => by simp at h
  | c :: l, 0, m, h => by
    show (((c.toNat ^^^ m : Nat) : Int).toNat ^^^ 256 * bnum (l.map Int.toNat)) = (c.toNat ^^^ 256 * bnum (l.map Int.toNat)) ^^^ (256 ^ 0 * m)
    rw [Int.toNat_natCast, Nat.pow_zero, Nat.one_mul, Nat.xor_assoc, Nat.xor_comm m, ← Nat.xor_assoc]
  | c :: l, q + 1, m, h => by
    have ih := bnum_set l q m (by simpa using h)
    show c.toNat ^^^ 256 * bnum ((l.set q _).map Int.toNat) = (c.toNat ^^^ 256 * bnum (l.map Int.toNat)) ^^^ (256 ^ (q + 1) * m)
    simp only [List.getElem_cons_succ]
    rw [ih, mul256_xor, ← Nat.xor_assoc, ← Nat.mul_assoc, Nat.pow_succ, Nat.mul_comm (256 ^ q) 256]
theorem pow_mul_xor (n a b : Nat) : 2 ^ n * (a ^^^ b) = 2 ^ n * a ^^^ 2 ^ n * b := by
  have := @Nat.shiftLeft_xor_distrib n a b
  simp only [Nat.shiftLeft_eq] at this
  rw [Nat.mul_comm, Nat.mul_comm (2 ^ n) a, Nat.mul_comm (2 ^ n) b]
  exact this
theorem bytes_set {l : List Int} (h : Bytes l) (q : Nat) (v : Int) (hv : 0 ≤ v ∧ v < 256) : Bytes (l.set q v) := by
  intro x hx
  rcases List.mem_or_eq_of_mem_set hx with h1 | h1
  · exact h x h1
  · rw [h1]; exact hv
theorem shl_u8 (r : Nat) (h : r < 8) : shl .u8 1 ((r : Nat) : Int) = ((2 ^ r : Nat) : Int) := by
  have hr : r = 0 ∨ r = 1 ∨ r = 2 ∨ r = 3 ∨ r = 4 ∨ r = 5 ∨ r = 6 ∨ r = 7 := by omega
  rcases hr with rfl | rfl | rfl | rfl | rfl | rfl | rfl | rfl <;> decide +kernel
theorem burst_sum (b x : List Int) (at_ W : Nat) (hl : x.length = b.length) (hx : Aside0 (bnum (x.map Int.toNat) = bnum (b.map Int.toNat) ^^^ (2 ^ at_ * W))) (hW : W < 4294967296) (hat : W ≠ 0 → at_ ≤ 8 * b.length) :
    (((crcSum b : Nat) : Int) != ((crcSum x : Nat) : Int)) = decide (W ≠ 0) := by
  have HS : Aside0 (crcSum x = crcSum b ^^^ crcN (8 * b.length) (2 ^ at_ * W)) := ⟨by
    rw [crcSum_eq, crcSum_eq, hl, hx.out, ← Nat.xor_assoc, crcN_xor, Nat.xor_assoc]⟩
  by_cases h0 : W = 0
  · subst h0
    have hs := HS.out
    rw [Nat.mul_zero, crcN_zero, Nat.xor_zero] at hs
    rw [hs]
    simp
  · have hle := hat h0
    have e : 8 * b.length = at_ + (8 * b.length - at_) := by clear hat HS hx; omega
    have h1 : crcN (8 * b.length) (2 ^ at_ * W) = crcN (8 * b.length - at_) W := by
      conv => lhs; rw [e]
      rw [crcN_add, crcN_shl]
    have h2 : crcN (8 * b.length - at_) W ≠ 0 := crcN_ne _ W hW h0
    have h3 : crcSum b ≠ crcSum x := by
      rw [HS.out, h1]
      intro e
      apply h2
      have := congrArg (fun z => crcSum b ^^^ z) e
      simp only [Nat.xor_self, ← Nat.xor_assoc, Nat.zero_xor] at this
      exact this.symm
    rw [decide_eq_true h0, bne_iff_ne]
    intro e2
    exact h3 (Int.ofNat_inj.1 e2)
theorem burst_step (x : List Int) (a1 i W : Nat) (b : List Int) (hx : Bytes x) (hlt : a1 + i < 8 * x.length) (hn : Aside0 (bnum (x.map Int.toNat) = bnum (b.map Int.toNat) ^^^ (2 ^ a1 * W))) :
    Bytes (x.set ((a1 + i) / 8) (Go.bits .xor .u8 (rd x (((a1 + i) / 8 : Nat) : Int)) (shl .u8 1 (((a1 + i) % 8 : Nat) : Int)))) ∧ Aside0 (bnum ((x.set ((a1 + i) / 8) (Go.bits .xor .u8 (rd x (((a1 + i) / 8 : Nat) : Int)) (shl .u8 1 (((a1 + i) % 8 : Nat) : Int)))).map Int.toNat) = bnum (b.map Int.toNat) ^^^ (2 ^ a1 * (W ^^^ 2 ^ i))) := by
  have hq : (a1 + i) / 8 < x.length := by clear hn; omega
  have hm8 : (a1 + i) % 8 < 8 := by clear hn; omega
  have hv := hx _ (List.getElem_mem hq)
  have hr2 : 2 ^ ((a1 + i) % 8) ≤ 2 ^ 7 := Nat.pow_le_pow_right (by decide) (Nat.le_of_lt_succ hm8)
  rw [rd_nat hq, shl_u8 _ hm8]
  have hs : (((2 ^ ((a1 + i) % 8) : Nat) : Int)).toNat = 2 ^ ((a1 + i) % 8) := Int.toNat_natCast _
  have hz : (0 : Int) ≤ ((2 ^ ((a1 + i) % 8) : Nat) : Int) ∧ ((2 ^ ((a1 + i) % 8) : Nat) : Int) < 256 := by
    generalize 2 ^ ((a1 + i) % 8) = z at hr2
    clear hn hv hs
    omega
  have c8 := u8_x x[(a1 + i) / 8] ((2 ^ ((a1 + i) % 8) : Nat) : Int) hv hz
  rw [hs] at c8
  rw [c8]
  have hxor : x[(a1 + i) / 8].toNat ^^^ 2 ^ ((a1 + i) % 8) < 2 ^ 8 := Nat.xor_lt_two_pow (n := 8) (x := x[(a1 + i) / 8].toNat) (y := 2 ^ ((a1 + i) % 8)) ((Int.toNat_lt hv.1).2 hv.2) (Nat.lt_of_le_of_lt hr2 (by decide))
  refine ⟨bytes_set hx _ _ ⟨Int.natCast_nonneg _, Int.ofNat_lt.2 hxor⟩, ⟨?_⟩⟩
  rw [bnum_set x ((a1 + i) / 8) (2 ^ ((a1 + i) % 8)) hq, hn.out]
  have hpw : 256 ^ ((a1 + i) / 8) * 2 ^ ((a1 + i) % 8) = 2 ^ a1 * 2 ^ i := by
    rw [show (256 : Nat) = 2 ^ 8 from rfl, ← Nat.pow_mul, ← Nat.pow_add, ← Nat.pow_add, Nat.div_add_mod]
  rw [hpw, Nat.xor_assoc, ← pow_mul_xor]
end Go.Proofs.Ytnhihiadmllnkaa.Pure
