/- Plain lemmas on the sum of bytes (crcSum): it is what word.Sum answers; for bytes of any length below 2^63. -/
import Derived.Test.YtnhihiadmllnkaaPAllx1
import Derived.Laws.BitsAllLaws
namespace Go.Proofs.Ytnhihiadmllnkaa.Pure
open Go.RowKit Go.Proofs.Ytnhihiadmllnkaa.PAll Go.Proofs.YtnhihiadmllnkaaW.PrintWords Go.Proofs.YtnhihiadmllnkaaW.PrintLast Go.Proofs.YtnhihiadmllnkaaW.PrintMore

/-! ### The sum as a plain function -/
def crcP : Nat := 2197175160
def crcS (x : Nat) : Nat := x / 2 ^^^ (if x % 2 = 1 then crcP else 0)
theorem xor_mod_two (x y : Nat) : (x ^^^ y) % 2 = (x % 2 + y % 2) % 2 := by
  have h := Nat.testBit_xor x y 0
  simp only [Nat.testBit_zero] at h
  rcases Nat.mod_two_eq_zero_or_one x with hx | hx <;> rcases Nat.mod_two_eq_zero_or_one y with hy | hy <;> rcases Nat.mod_two_eq_zero_or_one (x ^^^ y) with hz | hz <;> simp_all
theorem xor_div_two (x y : Nat) : (x ^^^ y) / 2 = x / 2 ^^^ y / 2 := by
  apply Nat.eq_of_testBit_eq
  intro i
  simp [Nat.testBit_div_two, Nat.testBit_xor]
theorem crcS_xor (x y : Nat) : crcS (x ^^^ y) = crcS x ^^^ crcS y := by
  unfold crcS
  rw [xor_mod_two, xor_div_two]
  rcases Nat.mod_two_eq_zero_or_one x with hx | hx <;> rcases Nat.mod_two_eq_zero_or_one y with hy | hy <;> simp only [hx, hy] <;> simp
  · rw [← Nat.xor_assoc]
  · rw [Nat.xor_assoc, Nat.xor_comm (y/2) crcP, ← Nat.xor_assoc]
  · rw [Nat.xor_assoc (x/2) crcP, Nat.xor_comm (y/2) crcP, ← Nat.xor_assoc crcP crcP, Nat.xor_self, Nat.zero_xor]
def crcN : Nat → Nat → Nat
  | 0, x => x
  | n + 1, x => crcN n (crcS x)
theorem crcN_xor (n : Nat) : ∀ x y, crcN n (x ^^^ y) = crcN n x ^^^ crcN n y := by
  induction n with
  | zero => intro x y; rfl
  | succ n ih => intro x y; show crcN n (crcS _) = _; rw [crcS_xor, ih]; rfl
theorem crcN_add (m n : Nat) : ∀ x, crcN (m + n) x = crcN n (crcN m x) := by
  induction m with
  | zero => intro x; rw [Nat.zero_add]; rfl
  | succ m ih => intro x; rw [Nat.succ_add]; show crcN (m + n) (crcS x) = _; rw [ih]; rfl
theorem crcS_two (x : Nat) : crcS (2 * x) = x := by unfold crcS; simp
theorem crcN_shl (n : Nat) : ∀ x, crcN n (2 ^ n * x) = x := by
  induction n with
  | zero => intro x; simp [crcN]
  | succ n ih => intro x; show crcN n (crcS _) = _; rw [Nat.pow_succ, show 2 ^ n * 2 * x = 2 * (2 ^ n * x) from by rw [Nat.mul_comm (2 ^ n) 2, Nat.mul_assoc], crcS_two, ih]
theorem crcS_lt (x : Nat) (h : x < 4294967296) : crcS x < 4294967296 := by
  unfold crcS
  have : x / 2 < 2 ^ 32 := by omega
  refine Nat.xor_lt_two_pow this ?_
  split
  · decide
  · decide
theorem crcS_ne (x : Nat) (h : x < 4294967296) (h0 : x ≠ 0) : crcS x ≠ 0 := by
  unfold crcS
  split
  · rename_i h1
    intro h2
    have h3 : x / 2 = crcP := by
      have := congrArg (fun z => z ^^^ crcP) h2
      simpa [Nat.xor_assoc] using this
    unfold crcP at h3
    omega
  · rename_i h1
    rw [Nat.xor_zero]
    omega
theorem crcN_ne (n : Nat) : ∀ x, x < 4294967296 → x ≠ 0 → crcN n x ≠ 0 := by
  induction n with
  | zero => intro x _ h; exact h
  | succ n ih => intro x h h0; exact ih _ (crcS_lt x h) (crcS_ne x h h0)
theorem crcN_lt (n : Nat) : ∀ x, x < 4294967296 → crcN n x < 4294967296 := by
  induction n with
  | zero => intro x h; exact h
  | succ n ih => intro x h; exact ih _ (crcS_lt x h)
theorem crcN_zero (n : Nat) : crcN n 0 = 0 := by
  induction n with
  | zero => rfl
  | succ n ih => exact ih
def crc (s : Nat) : List Nat → Nat
  | [] => s
  | c :: l => crc (crcN 8 (s ^^^ c)) l
def bnum : List Nat → Nat
  | [] => 0
  | c :: l => c ^^^ (256 * bnum l)
theorem crc_eq (l : List Nat) : ∀ s, crc s l = crcN (8 * l.length) (s ^^^ bnum l) := by
  induction l with
  | nil => intro s; simp [crc, bnum, crcN]
  | cons c l ih =>
    intro s
    show crc _ l = _
    rw [ih, List.length_cons, show 8 * (l.length + 1) = 8 + 8 * l.length by omega, crcN_add]
    show _ = crcN (8 * l.length) (crcN 8 (s ^^^ (c ^^^ 256 * bnum l)))
    rw [← Nat.xor_assoc, crcN_xor 8 (s ^^^ c), show 256 * bnum l = 2 ^ 8 * bnum l by omega, crcN_shl]
theorem crc_lt (l : List Nat) : ∀ s, s < 4294967296 → (∀ x ∈ l, x < 256) → crc s l < 4294967296 := by
  induction l with
  | nil => intro s h _; exact h
  | cons c l ih =>
    intro s h hl
    refine ih _ (crcN_lt 8 _ ?_) (fun x hx => hl x (List.mem_cons_of_mem _ hx))
    have := hl c (List.mem_cons_self)
    exact Nat.xor_lt_two_pow (n := 32) h (by omega)
/-- The sum of bytes. -/
def crcSum (l : List Int) : Nat := 4294967295 ^^^ crc 4294967295 (l.map Int.toNat)
/-- They are bytes. -/
def Bytes (l : List Int) : Prop := ∀ x ∈ l, 0 ≤ x ∧ x < 256
theorem bytes_wf {l : List Int} (h : ∀ x ∈ l, (Lit.int .u8 x).wf = true) : Bytes l := by
  intro x hx
  have := h x hx
  simp [Lit.wf, IntKind.min, IntKind.max, IntKind.signed, IntKind.bits] at this
  omega
theorem u32_step (x : Nat) (h : x < 4294967296) : Go.bits .xor .u32 ((x : Int) / 2) ((2197175160 * (Go.bits .and .u32 (x : Int) 1)) % 4294967296) = (crcS x : Nat) := by
  rw [show (1 : Int) = ((1 : Nat) : Int) from rfl, u32_and_nat x 1 h (by omega), Nat.and_one_is_mod]
  unfold crcS
  rcases Nat.mod_two_eq_zero_or_one x with hx | hx
  · rw [hx]
    rw [show ((x : Int) / 2) = ((x / 2 : Nat) : Int) by omega, show ((2197175160 * ((0 : Nat) : Int)) % 4294967296 : Int) = ((0 : Nat) : Int) by omega, u32_xor_nat _ _ (by omega) (by omega)]
    simp
  · rw [hx]
    rw [show ((x : Int) / 2) = ((x / 2 : Nat) : Int) by omega, show ((2197175160 * ((1 : Nat) : Int)) % 4294967296 : Int) = ((2197175160 : Nat) : Int) by omega, u32_xor_nat _ _ (by omega) (by omega)]
    simp [crcP]
theorem w64_succ {i : Int} (h0 : -9223372036854775808 ≤ i + 1) (h : i < 9223372036854775807) : wrap64 (i + 1) = i + 1 := by unfold wrap64; omega
theorem sum_l1 (j : Nat) : ∀ (k : Nat) (x : Nat) (l : List Int) (n i : Int), j ≤ 8 → x < 4294967296 → 0 ≤ i → i < 9223372036854775807 →
    word_Sum.l1 (k + j + 1) x l n i (8 - j) = word_Sum.l0 k (crcN j x : Nat) l n (i + 1) := by
  induction j with
  | zero =>
    intro k x l n i _ hx h0 h1
    simp only [word_Sum.l1]
    rw [if_neg (by omega), w64_succ (by omega) h1]
    rfl
  | succ j ih =>
    intro k x l n i hj hx h0 h1
    rw [show k + (j + 1) + 1 = (k + j + 1) + 1 by omega, word_Sum.l1, if_pos (by omega), u32_step x hx, w64_succ (by omega) (by omega), show (8 - ((j + 1 : Nat) : Int) + 1) = 8 - (j : Int) by omega, ih k _ l n i (by omega) (crcS_lt x hx) h0 h1]
    rfl
theorem sum_l0 (d : Nat) : ∀ (k : Nat) (x : Nat) (l : List Int) (i : Nat), Bytes l → l.length ≤ 9223372036854775806 → x < 4294967296 → i + d = l.length → 10 * d + 1 ≤ k →
    word_Sum.l0 k x l l.length i = some (((4294967295 ^^^ crc x ((l.drop i).map Int.toNat) : Nat)) : Int) := by
  induction d with
  | zero =>
    intro k x l i hb hl hx hi hk
    obtain ⟨k, rfl⟩ : ∃ m, k = m + 1 := ⟨k - 1, by omega⟩
    simp only [word_Sum.l0]
    rw [if_neg (by omega), List.drop_of_length_le (by omega), show (4294967295 : Int) = ((4294967295 : Nat) : Int) from rfl, u32_xor_nat _ _ (by omega) hx]
    rfl
  | succ d ih =>
    intro k x l i hb hl hx hi hk
    obtain ⟨k, rfl⟩ : ∃ m, k = (m + 8 + 1) + 1 := ⟨k - 10, by omega⟩
    have hlt : i < l.length := by omega
    have hc := hb _ (List.getElem_mem hlt)
    simp only [word_Sum.l0]
    rw [if_pos (by omega), if_pos (by omega), if_pos (by omega)]
    have hrd : rd l i = l[i] := by
      unfold rd
      rw [List.getD_eq_getElem?_getD, show ((i : Int).toNat) = i from by omega, List.getElem?_eq_getElem hlt]; rfl
    rw [hrd]
    obtain ⟨c, hcc⟩ : ∃ c : Nat, (c : Int) = l[i] := ⟨l[i].toNat, by omega⟩
    rw [← hcc, show ((c : Int) % 4294967296) = (c : Int) by omega, u32_xor_nat _ _ hx (by omega)]
    have hxc : x ^^^ c < 4294967296 := Nat.xor_lt_two_pow (n := 32) hx (by omega)
    have h1 := sum_l1 8 k (x ^^^ c) l l.length i (by omega) hxc (by omega) (by omega)
    rw [show (8 - ((8 : Nat) : Int)) = 0 from rfl] at h1
    rw [h1, show ((i : Int) + 1) = ((i + 1 : Nat) : Int) by omega, ih k _ l (i + 1) hb hl (crcN_lt 8 _ hxc) (by omega) (by omega)]
    rw [List.drop_eq_getElem_cons hlt, List.map_cons]
    show _ = some (((4294967295 ^^^ crc (crcN 8 (x ^^^ _)) _ : Nat)) : Int)
    rw [← hcc]
    rfl
theorem sum_f (l : List Int) (hb : Bytes l) (hl : l.length ≤ 9223372036854775806) (k : Nat) (hk : 10 * l.length + 1 ≤ k) : word_Sum.f k l = some (crcSum l : Int) := by
  unfold word_Sum.f
  have := sum_l0 l.length k 4294967295 l 0 hb hl (by omega) (by omega) hk
  exact this
/-! ### Rows made element by element -/
theorem take_set {x T : List Int} {i : Nat} {v : Int} (hl : x.length = T.length) (h : x.take i = T.take i) (hi : i < T.length) (hv : T[i]? = some v) : (x.set i v).take (i + 1) = T.take (i + 1) := by
  apply List.ext_getElem?
  intro j
  rw [List.getElem?_take, List.getElem?_take]
  by_cases hj : j < i + 1
  · rw [if_pos hj, if_pos hj, List.getElem?_set]
    by_cases he : i = j
    · subst he
      rw [if_pos rfl, if_pos (by omega), hv]
    · rw [if_neg he]
      have := congrArg (fun l => l[j]?) h
      simp only [List.getElem?_take] at this
      rwa [if_pos (by omega), if_pos (by omega)] at this
  · rw [if_neg hj, if_neg hj]
def xr (a b : List Int) : List Int := List.zipWith (fun x y : Int => ((x.toNat ^^^ y.toNat : Nat) : Int)) a b
theorem mul256_xor (a b : Nat) : 256 * (a ^^^ b) = 256 * a ^^^ 256 * b := by
  have := @Nat.shiftLeft_xor_distrib 8 a b
  simp only [Nat.shiftLeft_eq] at this
  rw [Nat.mul_comm, Nat.mul_comm 256 a, Nat.mul_comm 256 b]
  exact this
theorem xr_bnum : ∀ a b : List Int, a.length = b.length → bnum ((xr a b).map Int.toNat) = bnum (a.map Int.toNat) ^^^ bnum (b.map Int.toNat)
  | [], [], _ => by simp [xr, bnum]
  | [], _ :: _, h => by simp at h
  | _ :: _, [], h => by simp at h
  | x :: a, y :: b, h => by
    have ih := xr_bnum a b (by simpa using h)
    show (((x.toNat ^^^ y.toNat : Nat) : Int).toNat ^^^ 256 * bnum ((xr a b).map Int.toNat)) = (x.toNat ^^^ 256 * bnum (a.map Int.toNat)) ^^^ (y.toNat ^^^ 256 * bnum (b.map Int.toNat))
    rw [ih, mul256_xor, Int.toNat_natCast]
    apply Nat.eq_of_testBit_eq
    intro i
    simp only [Nat.testBit_xor]
    generalize x.toNat.testBit i = p
    generalize y.toNat.testBit i = q
    generalize (256 * bnum (a.map Int.toNat)).testBit i = r
    generalize (256 * bnum (b.map Int.toNat)).testBit i = s
    cases p <;> cases q <;> cases r <;> cases s <;> rfl
theorem xr_length (a b : List Int) : (xr a b).length = min a.length b.length := by simp [xr]
theorem xr_bytes {a b : List Int} (ha : Bytes a) (hb : Bytes b) : Bytes (xr a b) := by
  intro x hx
  obtain ⟨i, hi, rfl⟩ := List.getElem_of_mem hx
  rw [xr_length] at hi
  have h1 := ha _ (List.getElem_mem (show i < a.length by omega))
  have h2 := hb _ (List.getElem_mem (show i < b.length by omega))
  simp only [xr, List.getElem_zipWith]
  have := Nat.xor_lt_two_pow (n := 8) (x := a[i].toNat) (y := b[i].toNat) (by omega) (by omega)
  omega
theorem crcSum_eq (l : List Int) : crcSum l = 4294967295 ^^^ crcN (8 * l.length) (4294967295 ^^^ bnum (l.map Int.toNat)) := by
  unfold crcSum
  rw [crc_eq, List.length_map]
theorem crcSum_xr3 (a b c : List Int) (h1 : a.length = b.length) (h2 : a.length = c.length) : crcSum (xr (xr a b) c) = crcSum a ^^^ crcSum b ^^^ crcSum c := by
  have hl : (xr a b).length = c.length := by rw [xr_length]; omega
  rw [crcSum_eq, crcSum_eq, crcSum_eq, crcSum_eq, xr_bnum _ _ hl, xr_bnum _ _ h1, show (xr (xr a b) c).length = a.length by rw [xr_length, xr_length]; omega, ← h1, ← h2]
  simp only [crcN_xor]
  apply Nat.eq_of_testBit_eq
  intro i
  simp only [Nat.testBit_xor]
  generalize (crcN (8 * a.length) 4294967295).testBit i = p
  generalize (crcN (8 * a.length) (bnum (a.map Int.toNat))).testBit i = q
  generalize (crcN (8 * a.length) (bnum (b.map Int.toNat))).testBit i = r
  generalize (crcN (8 * a.length) (bnum (c.map Int.toNat))).testBit i = s
  generalize (4294967295 : Nat).testBit i = t
  cases p <;> cases q <;> cases r <;> cases s <;> cases t <;> rfl
theorem crcSum_lt (l : List Int) (h : Bytes l) : crcSum l < 4294967296 := by
  unfold crcSum
  refine Nat.xor_lt_two_pow (n := 32) (by omega) (crc_lt _ _ (by omega) ?_)
  intro x hx
  obtain ⟨y, hy, rfl⟩ := List.mem_map.1 hx
  have := h y hy
  omega
theorem bytes_take {l : List Int} (h : Bytes l) (n : Nat) : Bytes (l.take n) := fun x hx => h x (List.mem_of_mem_take hx)
theorem rd_nat {l : List Int} {i : Nat} (h : i < l.length) : rd l i = l[i] := by
  unfold rd
  rw [List.getD_eq_getElem?_getD, show ((i : Int).toNat) = i from by omega, List.getElem?_eq_getElem h]; rfl
theorem u8_x (a b : Int) (ha : 0 ≤ a ∧ a < 256) (hb : 0 ≤ b ∧ b < 256) : Go.bits .xor .u8 a b = ((a.toNat ^^^ b.toNat : Nat) : Int) := u8_xor a b ha.1 ha.2 hb.1 hb.2
end Go.Proofs.Ytnhihiadmllnkaa.Pure
