/- The document's answers on records, their sectors and whether they are the same; plain. -/
import Derived.Test.YtglgndeoldgjbaaRec
import Derived.Test.YtglgndeoldgjbaaPRefx1
import Derived.Test.YtglgndeoldgjbaaPRefx2
import Derived.Test.YtglgndeoldgjbaaPRefx4
namespace Go.Proofs.Ytglgndeoldgjbaa.Pure
open Go.RowKit Go.Proofs.Ytglgndeoldgjbaa Go.Proofs.Ytglgndeoldgjbaa.PTwo Go.Proofs.YtglgndeoldgjbaaW.PrintWords Go.Proofs.YtglgndeoldgjbaaW.PrintLast Go.Proofs.YtglgndeoldgjbaaW.PrintMore
set_option linter.unusedVariables false
set_option linter.unusedSimpArgs false

theorem u32_rstep (x : Nat) (h : x < 4294967296) : (if (Int.tmod (x : Int) 2) = 1 then Go.bits .xor .u32 ((x : Int) / 2) 2197175160 else (x : Int) / 2) = (crcS x : Nat) := by
  rw [Int.tmod_eq_emod_of_nonneg (by omega)]
  unfold crcS
  rcases Nat.mod_two_eq_zero_or_one x with hx | hx
  · rw [if_neg (by omega), if_neg (by omega), Nat.xor_zero]
    omega
  · rw [if_pos (by omega), if_pos hx, show ((x : Int) / 2) = ((x / 2 : Nat) : Int) by omega, show (2197175160 : Int) = ((crcP : Nat) : Int) from rfl, u32_xor_nat _ _ (by omega) (by decide)]
theorem rsum_l1 (j : Nat) : ∀ (k : Nat) (x : Nat) (l : List Int) (i : Int), j ≤ 8 → x < 4294967296 → 0 ≤ i → i < 9223372036854775807 →
    PRef.atticref01_Sum.l1 (k + j + 1) l x i (8 - j) = PRef.atticref01_Sum.l0 k l (crcN j x : Nat) (i + 1) := by
  induction j with
  | zero =>
    intro k x l i _ hx h0 h1
    rw [PRef.atticref01_Sum.l1]
    rw [if_neg (by omega), w64_succ (by omega) h1]
    rfl
  | succ j ih =>
    intro k x l i hj hx h0 h1
    have hs := u32_rstep x hx
    have h := ih k _ l i (by omega) (crcS_lt x hx) h0 h1
    rw [← hs] at h
    rw [show k + (j + 1) + 1 = (k + j + 1) + 1 by omega, PRef.atticref01_Sum.l1, if_pos (by omega), w64_succ (by omega) (by omega), show (8 - ((j + 1 : Nat) : Int) + 1) = 8 - (j : Int) by omega]
    by_cases c : (Int.tmod (x : Int) 2) = 1
    · rw [if_pos c] at h ⊢
      exact h
    · rw [if_neg c] at h ⊢
      exact h
theorem rsum_l0 (d : Nat) : ∀ (k : Nat) (x : Nat) (l : List Int) (i : Nat), Bytes l → l.length ≤ 9223372036854775806 → x < 4294967296 → i + d = l.length → 10 * d + 1 ≤ k →
    PRef.atticref01_Sum.l0 k l x i = some (((4294967295 ^^^ crc x ((l.drop i).map Int.toNat) : Nat)) : Int) := by
  induction d with
  | zero =>
    intro k x l i hb hl hx hi hk
    obtain ⟨k, rfl⟩ : ∃ m, k = m + 1 := ⟨k - 1, by omega⟩
    rw [PRef.atticref01_Sum.l0]
    rw [if_neg (by omega), List.drop_of_length_le (by omega), show (4294967295 : Int) = ((4294967295 : Nat) : Int) from rfl, u32_xor_nat _ _ (by omega) hx]
    rfl
  | succ d ih =>
    intro k x l i hb hl hx hi hk
    obtain ⟨k, rfl⟩ : ∃ m, k = (m + 8 + 1) + 1 := ⟨k - 10, by omega⟩
    have hlt : i < l.length := by omega
    have hc := hb _ (List.getElem_mem hlt)
    rw [PRef.atticref01_Sum.l0]
    rw [if_pos (by omega), if_pos (by omega)]
    rw [rd_nat hlt]
    obtain ⟨c, hcc⟩ : ∃ c : Nat, (c : Int) = l[i] := ⟨l[i].toNat, by omega⟩
    rw [← hcc, show ((c : Int) % 4294967296) = (c : Int) by omega, u32_xor_nat _ _ hx (by omega)]
    have hxc : x ^^^ c < 4294967296 := Nat.xor_lt_two_pow (n := 32) hx (by omega)
    have h1 := rsum_l1 8 k (x ^^^ c) l i (by omega) hxc (by omega) (by omega)
    rw [show (8 - ((8 : Nat) : Int)) = 0 from rfl] at h1
    rw [h1, show ((i : Int) + 1) = ((i + 1 : Nat) : Int) by omega, ih k _ l (i + 1) hb hl (crcN_lt 8 _ hxc) (by omega) (by omega)]
    rw [List.drop_eq_getElem_cons hlt, List.map_cons]
    show _ = some (((4294967295 ^^^ crc (crcN 8 (x ^^^ _)) _ : Nat)) : Int)
    rw [← hcc]
    rfl
theorem rsum_f (l : List Int) (hb : Bytes l) (hl : l.length ≤ 9223372036854775806) (k : Nat) (hk : 10 * l.length + 1 ≤ k) : PRef.atticref01_Sum.f k l = some (crcSum l : Int) := by
  unfold PRef.atticref01_Sum.f
  have := rsum_l0 l.length k 4294967295 l 0 hb hl (by omega) (by omega) hk
  exact this
theorem rcheck_f (kind block off : Int) (data : List Int) (many : Int) (hd : data.length ≤ 140737488355328) : PRef.atticref06_Check.f kind block off data many = some (if recOk kind block off data many then 0 else 60) := by
  have hno : ¬ recOk kind block off data many → (some 60 : Option Int) = some (if recOk kind block off data many then 0 else 60) := fun h => by rw [if_neg h]
  have hyes : recOk kind block off data many → (some 0 : Option Int) = some (if recOk kind block off data many then 0 else 60) := fun h => by rw [if_pos h]
  have e1 : recOk kind block off data many ↔ (kind = 1 ∧ many = 0 ∧ 0 ≤ block ∧ block < 2048 ∧ 1 ≤ data.length ∧ data.length ≤ 44 ∧ 0 ≤ off ∧ off ≤ 256 - (data.length : Int)) ∨ (kind = 2 ∧ 0 ≤ many ∧ many ≤ 65536 ∧ block = 0 ∧ off = 0 ∧ data.length = 0) := Iff.rfl
  unfold PRef.atticref06_Check.f
  rw [w64id (x := 256 - (data.length : Int)) (by omega) (by omega)]
  by_cases h1 : kind = 1
  · rw [if_pos h1]
    by_cases c1 : block ≥ 0
    · rw [if_pos c1]
      by_cases c2 : block < 2048
      · rw [if_pos c2]
        by_cases c3 : (data.length : Int) ≥ 1
        · rw [if_pos c3]
          by_cases c4 : (data.length : Int) ≤ 44
          · rw [if_pos c4]
            by_cases c5 : off ≥ 0
            · rw [if_pos c5]
              by_cases c6 : off ≤ 256 - (data.length : Int)
              · rw [if_pos c6]
                by_cases c7 : many = 0
                · rw [if_pos c7]; exact hyes (e1.2 (by omega))
                · rw [if_neg c7]; exact hno (fun h => by have := e1.1 h; omega)
              · rw [if_neg c6]; exact hno (fun h => by have := e1.1 h; omega)
            · rw [if_neg c5]; exact hno (fun h => by have := e1.1 h; omega)
          · rw [if_neg c4]; exact hno (fun h => by have := e1.1 h; omega)
        · rw [if_neg c3]; exact hno (fun h => by have := e1.1 h; omega)
      · rw [if_neg c2]; exact hno (fun h => by have := e1.1 h; omega)
    · rw [if_neg c1]; exact hno (fun h => by have := e1.1 h; omega)
  · rw [if_neg h1]
    by_cases h2 : kind = 2
    · rw [if_pos h2]
      by_cases c1 : many ≥ 0
      · rw [if_pos c1]
        by_cases c2 : many ≤ 65536
        · rw [if_pos c2]
          by_cases c3 : block = 0
          · rw [if_pos c3]
            by_cases c4 : off = 0
            · rw [if_pos c4]
              by_cases c5 : (data.length : Int) = 0
              · rw [if_pos c5]; exact hyes (e1.2 (by omega))
              · rw [if_neg c5]; exact hno (fun h => by have := e1.1 h; omega)
            · rw [if_neg c4]; exact hno (fun h => by have := e1.1 h; omega)
          · rw [if_neg c3]; exact hno (fun h => by have := e1.1 h; omega)
        · rw [if_neg c2]; exact hno (fun h => by have := e1.1 h; omega)
      · rw [if_neg c1]; exact hno (fun h => by have := e1.1 h; omega)
    · rw [if_neg h2]; exact hno (fun h => by have := e1.1 h; omega)
theorem rnum06_l0 (d : Nat) : ∀ (k : Nat) (l : List Int) (v n i : Nat), l.length + d ≤ 1000 → n ≤ 8 → i + d = n → v < 18446744073709551616 → d < k →
    PRef.atticref06_num.l0 k l (v : Int) (n : Int) (i : Int) = some (l ++ numL d v) := by
  induction d with
  | zero =>
    intro k l v n i _ _ hi _ hk
    obtain ⟨k, rfl⟩ : ∃ m, k = m + 1 := ⟨k - 1, by omega⟩
    rw [PRef.atticref06_num.l0, if_neg (by omega)]
    simp [numL]
  | succ d ih =>
    intro k l v n i hl hn hi hv hk
    obtain ⟨k, rfl⟩ : ∃ m, k = m + 1 := ⟨k - 1, by omega⟩
    have e : IntKind.u64.wrap (Int.tdiv (v : Int) 256) = ((v / 256 : Nat) : Int) := by
      rw [Int.tdiv_eq_ediv_of_nonneg (by omega), u64w _ (by omega) (by omega)]
      omega
    rw [PRef.atticref06_num.l0, if_pos (by omega), if_pos (by omega), e, w64id (by omega) (by omega)]
    have hlen : (l ++ [(v : Int) % 256]).length = l.length + 1 := by simp
    rw [show ((i : Int) + 1) = ((i + 1 : Nat) : Int) by omega, ih k _ (v / 256) n (i + 1) (by omega) hn (by omega) (by omega) (by omega), List.append_assoc]
    congr 2
    unfold numL
    rw [List.range_succ_eq_map, List.map_cons, List.map_map]
    show [(v : Int) % 256] ++ _ = _
    rw [List.singleton_append]
    congr 1
    · simp
    · apply List.map_congr_left
      intro i _
      simp only [Function.comp_apply]
      rw [Nat.succ_eq_add_one, Nat.pow_succ, Nat.mul_comm, ← Nat.div_div_eq_div_mul]
theorem rnum06_f (k : Nat) (l : List Int) (v n : Nat) (hl : l.length ≤ 900) (hn : n ≤ 8) (hv : v < 18446744073709551616) (hk : n < k) : PRef.atticref06_num.f k l (v : Int) (n : Int) = some (l ++ numL n v) :=
  rnum06_l0 n k l v n 0 (by omega) hn (by omega) hv hk
theorem rbytes_l0 (d : Nat) : ∀ (k : Nat) (x : List Int), Bytes x → x.length + d = 60 → 700 + d ≤ k → PRef.atticref06_Bytes.l0 k x = some ((x ++ List.replicate d 0) ++ numL 4 (crcSum (x ++ List.replicate d 0)), 0) := by
  induction d with
  | zero =>
    intro k x hb hx hk
    obtain ⟨k, rfl⟩ : ∃ m, k = m + 1 := ⟨k - 1, by omega⟩
    have hcs := crcSum_lt x hb
    rw [PRef.atticref06_Bytes.l0, if_neg (by omega), rsum_f x hb (by omega) k (by omega)]
    simp only [Option.bind_some]
    rw [u64w _ (by omega) (by omega)]
    have := rnum06_f k x (crcSum x) 4 (by omega) (by decide) (by omega) (by omega)
    rw [show ((4 : Nat) : Int) = 4 from rfl] at this
    rw [this]
    simp
  | succ d ih =>
    intro k x hb hx hk
    obtain ⟨k, rfl⟩ : ∃ m, k = m + 1 := ⟨k - 1, by omega⟩
    rw [PRef.atticref06_Bytes.l0, if_pos (by omega), if_pos (by omega), ih k (x ++ [0]) (bytes_append hb (by intro y hy; rw [List.mem_singleton] at hy; omega)) (by rw [List.length_append, List.length_singleton]; omega) (by omega), show x ++ [0] ++ List.replicate d 0 = x ++ List.replicate (d + 1) 0 by rw [List.append_assoc]; rfl]
theorem rbytes_f (k : Nat) (lsn kind block off : Int) (data : List Int) (many : Int) (hd : Bytes data) (hl : data.length ≤ 140737488355328) (hk : 900 ≤ k) : PRef.atticref06_Bytes.f k lsn kind block off data many = some (bytesA lsn kind block off data many) := by
  unfold PRef.atticref06_Bytes.f bytesA
  obtain ⟨k, rfl⟩ : ∃ m, k = m + 2 := ⟨k - 2, by omega⟩
  by_cases h0 : lsn < 0
  · rw [if_pos h0, if_pos (.inl h0), PRef.atticref06_Bytes.j0, if_pos rfl]
  · rw [if_neg h0]
    by_cases h1 : lsn > 2305843009213693952
    · rw [decide_eq_true h1, if_pos (.inr h1), PRef.atticref06_Bytes.j0, if_pos rfl]
    · rw [decide_eq_false h1, if_neg (by omega), PRef.atticref06_Bytes.j0, if_neg (by decide), rcheck_f _ _ _ _ _ hl, Option.bind_some]
      by_cases hr : recOk kind block off data many
      · have hle := recOk_le hr
        rw [if_pos hr, if_pos rfl, if_pos hr]
        obtain ⟨n, rfl⟩ := Int.eq_ofNat_of_zero_le (show 0 ≤ lsn by omega)
        have h2 : ∀ b : Int, 0 ≤ b → b ≤ 65536 → (PRef.atticref06_num.f (k + 1) ([kind, (data.length : Int)] ++ numL 8 n) (IntKind.u64.wrap b) 4) = some ([kind, (data.length : Int)] ++ numL 8 n ++ numL 4 b.toNat) := by
          intro b hb0 hb1
          obtain ⟨m, rfl⟩ := Int.eq_ofNat_of_zero_le hb0
          rw [u64w _ (by omega) (by omega)]
          exact rnum06_f (k + 1) _ m 4 (by simp [numL_length]) (by decide) (by omega) (by omega)
        have h3 : PRef.atticref06_num.f (k + 1) [kind % 256, (data.length : Int) % 256] (IntKind.u64.wrap (n : Int)) 8 = some ([kind, (data.length : Int)] ++ numL 8 n) := by
          rw [show kind % 256 = kind by omega, show (data.length : Int) % 256 = data.length by omega, u64w _ (by omega) (by omega)]
          exact rnum06_f (k + 1) _ n 8 (by simp) (by decide) (by omega) (by omega)
        have h4 : ∀ X : List Int, X.length = 14 → Bytes X → PRef.atticref06_Bytes.j1 (k + 1) X kind block off data many = some ((X ++ [off, 0] ++ data ++ List.replicate (44 - data.length) 0) ++ numL 4 (crcSum (X ++ [off, 0] ++ data ++ List.replicate (44 - data.length) 0)), 0) := by
          intro X hX hbX
          rw [PRef.atticref06_Bytes.j1]
          simp only [Option.bind_some, List.length_append, List.length_cons, List.length_nil]
          rw [if_pos (by omega), if_pos (by omega), show off % 256 = off by omega]
          refine rbytes_l0 (44 - data.length) k _ (bytes_append (bytes_append hbX ?_) hd) (by simp only [List.length_append, List.length_cons, List.length_nil]; omega) (by omega)
          intro x hx
          simp only [List.mem_cons, List.not_mem_nil, or_false] at hx
          omega
        have hbX : ∀ m : Nat, Bytes ([kind, (data.length : Int)] ++ numL 8 n ++ numL 4 m) := fun m => bytes_append (bytes_append (by
          intro x hx
          simp only [List.mem_cons, List.not_mem_nil, or_false] at hx
          omega) (numL_bytes _ _)) (numL_bytes _ _)
        have hXl : ∀ m : Nat, ([kind, (data.length : Int)] ++ numL 8 n ++ numL 4 m).length = 14 := fun m => by simp [numL_length]
        rw [h3, Option.bind_some]
        unfold recB recH
        rw [Int.toNat_natCast]
        by_cases h5 : kind = 1
        · have hm : mx block many = block := by unfold recOk at hr; unfold mx; rw [if_neg (by omega)]
          rw [hm] at hle
          rw [if_pos h5, h2 block (by omega) (by omega), Option.bind_some, h4 _ (hXl _) (hbX _), hm]
        · have hm : mx block many = many := by
            unfold recOk at hr
            unfold mx
            by_cases h6 : block < many
            · rw [if_pos h6]
            · rw [if_neg h6]; omega
          rw [hm] at hle
          rw [if_neg h5, h2 many (by omega) (by omega), Option.bind_some, h4 _ (hXl _) (hbX _), hm]
      · rw [if_neg hr, if_neg (by decide), if_neg hr]
theorem rsame_f (a0 a1 a2 : Int) (l : List Int) (a4 b0 b1 b2 : Int) (m : List Int) (b4 : Int) (hl : Bytes l) (hm : Bytes m) : PRef.atticref06_Same.f a0 a1 a2 l a4 b0 b1 b2 m b4 = some (decide (a0 = b0 ∧ a1 = b1 ∧ a2 = b2 ∧ a4 = b4 ∧ l = m)) := by
  unfold PRef.atticref06_Same.f
  by_cases h0 : a0 = b0
  · rw [if_pos h0]
    by_cases h1 : a1 = b1
    · rw [if_pos h1]
      by_cases h2 : a2 = b2
      · rw [if_pos h2, Go.Lib.strOfNums_toList, Go.Lib.strOfNums_toList]
        by_cases h3 : l = m
        · subst h3
          rw [if_pos rfl]
          congr 1
          rw [Bool.eq_iff_iff]
          simp [h0, h1, h2]
        · rw [if_neg (show ¬ (Lib.bytesOf l = Lib.bytesOf m) from fun e => h3 (map8_inj l m hl hm e)), decide_eq_false (fun e => h3 e.2.2.2.2)]
      · rw [if_neg h2, decide_eq_false (fun e => h2 e.2.2.1)]
    · rw [if_neg h1, decide_eq_false (fun e => h1 e.2.1)]
  · rw [if_neg h0, decide_eq_false (fun e => h0 e.1)]
end Go.Proofs.Ytglgndeoldgjbaa.Pure
