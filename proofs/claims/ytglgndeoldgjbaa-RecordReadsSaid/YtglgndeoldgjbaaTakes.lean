/- Plain lemmas on what is read of a sector: record.Take and record.Lsn; for all bytes and places. -/
import Derived.Test.YtglgndeoldgjbaaRec
namespace Go.Proofs.Ytglgndeoldgjbaa.Pure
open Go.RowKit Go.Proofs.Ytglgndeoldgjbaa.PTwo Go.Proofs.YtglgndeoldgjbaaW.PrintWords Go.Proofs.YtglgndeoldgjbaaW.PrintLast Go.Proofs.YtglgndeoldgjbaaW.PrintMore

set_option linter.unusedVariables false
theorem number_f (k : Nat) (l : List Int) (p n : Nat) (hb : Bytes l) (hl : l.length = 64) (hn : 1 ≤ n ∧ n ≤ 8) (hp : p + n ≤ 64) (hk : 10 ≤ k) : record_number.f k l p n = some (wrap64 (getL l p n : Int)) := by
  unfold record_number.f
  rw [get_f k l p n hb (by omega) hk, Option.bind_some]
  unfold getA
  rw [if_neg (by omega), Int.toNat_natCast, Int.toNat_natCast]
theorem rd_byte {l : List Int} (hb : Bytes l) {i : Nat} (hi : i < l.length) : 0 ≤ rd l i ∧ rd l i < 256 := by
  rw [rd_nat hi]
  exact hb _ (List.getElem_mem hi)
/-- What parse answers of a sector that is a record's, and of any other bytes. -/
theorem parse_j1 (k : Nat) (l : List Int) (lsn kind block off : Int) (data : List Int) (many : Int) (hb : Bytes l) (hd : Bytes data) (hk : 701 ≤ k) :
    (Says l lsn kind block off data many → record_parse.j1 k l lsn kind block off data many = some (kind, block, off, data, many, lsn, 0)) ∧
    (¬ Says l lsn kind block off data many → record_parse.j1 k l lsn kind block off data many = some (0, 0, 0, [], 0, 0, 61)) := by
  obtain ⟨k, rfl⟩ : ∃ m, k = m + 1 := ⟨k - 1, by omega⟩
  rw [record_parse.j1, bytes_f k lsn kind block off data many hd (by omega), Option.bind_some]
  constructor
  · intro h
    have hx := says_bytes h
    rw [says_bytesA h]
    show (if (0 : Int) = 0 then (bytes_Equal.f l l).bind _ else _) = _
    rw [if_pos rfl, equal_f l l hx hx, Option.bind_some, decide_eq_true rfl, if_pos rfl]
  · intro h
    by_cases h0 : (bytesA lsn kind block off data many).2 = 0
    · rw [if_pos h0]
      have hs := bytesA_zero hd h0
      rw [equal_f _ _ (says_bytes hs) hb, Option.bind_some]
      by_cases he : (bytesA lsn kind block off data many).1 = l
      · rw [he] at hs
        exact absurd hs h
      · rw [decide_eq_false he, if_neg (by decide)]
    · rw [if_neg h0]
theorem parse_f (k : Nat) (l : List Int) (hb : Bytes l) (hl : l.length ≤ 140737488351232) (hk : 710 ≤ k) :
    (∀ lsn kind block off data many, Says l lsn kind block off data many → record_parse.f k l = some (kind, block, off, data, many, lsn, 0)) ∧
    ((∀ lsn kind block off data many, ¬ Says l lsn kind block off data many) → record_parse.f k l = some (0, 0, 0, [], 0, 0, 61)) := by
  obtain ⟨k, rfl⟩ : ∃ m, k = m + 1 := ⟨k - 1, by omega⟩
  unfold record_parse.f
  by_cases h64 : l.length = 64
  · rw [if_pos (show (l.length : Int) = 64 by omega), if_pos (show 1 < (l.length : Int) by omega)]
    rw [record_parse.j0]
    have b0 := rd_byte hb (show 0 < l.length by omega)
    have b1 := rd_byte hb (show 1 < l.length by omega)
    have b14 := rd_byte hb (show 14 < l.length by omega)
    simp only [Int.natCast_zero] at b0
    change 0 ≤ rd l 1 ∧ rd l 1 < 256 at b1
    change 0 ≤ rd l 14 ∧ rd l 14 < 256 at b14
    by_cases h44 : rd l 1 > 44
    · rw [decide_eq_true h44, if_pos rfl]
      refine ⟨fun lsn kind block off data many h => ?_, fun _ => rfl⟩
      obtain ⟨h1, h2, _, h3⟩ := h
      obtain ⟨_, _, s1, _⟩ := recB_says h3 h1 h2
      have := recOk_le h2
      omega
    · rw [decide_eq_false h44, if_neg (by decide), if_pos (by omega), if_pos (by omega)]
      have g2 : record_number.f k l 2 8 = _ := number_f k l 2 8 hb h64 (by decide) (by decide) (by omega)
      have g10 : record_number.f k l 10 4 = _ := number_f k l 10 4 hb h64 (by decide) (by decide) (by omega)
      have lt4 := getL_lt l 10 4 hb (by omega)
      rw [g2, g10]
      simp only [Option.bind_some]
      rw [w64id (x := rd l 0) (by omega) (by omega), w64id (x := rd l 1) (by omega) (by omega), w64id (x := rd l 14) (by omega) (by omega), w64id (x := 16 + rd l 1) (by omega) (by omega), w64id (x := (getL l 10 4 : Int)) (by omega) (by omega)]
      have hlsn : ∀ lsn : Int, 0 ≤ lsn → lsn ≤ 2305843009213693952 → getL l 2 8 = lsn.toNat → wrap64 (getL l 2 8 : Int) = lsn := by
        intro lsn a1 a2 a3
        rw [a3, w64id (by omega) (by omega)]
        omega
      by_cases hk1 : rd l 0 = 1
      · rw [if_pos hk1, if_pos (by omega), if_pos (by omega), if_pos (by omega)]
        have hdb : Bytes ((l.take (16 + rd l 1).toNat).drop 16) := fun x hx => hb x (List.mem_of_mem_take (List.mem_of_mem_drop hx))
        have hcl : bytes_Clone.f ((l.take (16 + rd l 1).toNat).drop 16) = some ((l.take (16 + rd l 1).toNat).drop 16) := by
          unfold bytes_Clone.f
          rw [if_pos (by rw [List.length_drop, List.length_take]; omega)]
        rw [hcl, Option.bind_some]
        obtain ⟨y, n⟩ := parse_j1 k l (wrap64 (getL l 2 8 : Int)) (rd l 0) (getL l 10 4) (rd l 14) ((l.take (16 + rd l 1).toNat).drop 16) 0 hb hdb (by omega)
        refine ⟨fun lsn kind block off data many h => ?_, fun h => n (h _ _ _ _ _ _)⟩
        have h' := h
        obtain ⟨h1, h2, _, h3⟩ := h'
        obtain ⟨_, s0, s1, s2, s3, s4, s5⟩ := recB_says h3 h1 h2
        have e1 : wrap64 (getL l 2 8 : Int) = lsn := hlsn lsn h1.1 h1.2 s3
        have e2 : (l.take (16 + rd l 1).toNat).drop 16 = data := by rw [s1, show (16 + (data.length : Int)).toNat = 16 + data.length by omega, s5]
        have e3 : ((getL l 10 4 : Nat) : Int) = block ∧ 0 = many := by
          rw [s4]
          have := recOk_le h2
          unfold recOk at h2
          unfold mx
          by_cases c : block < many
          · rw [if_pos c]; omega
          · rw [if_neg c]; omega
        rw [e1, s0, s2, e2, e3.1, e3.2] at y ⊢
        exact y h
      · rw [if_neg hk1]
        obtain ⟨y, n⟩ := parse_j1 k l (wrap64 (getL l 2 8 : Int)) (rd l 0) 0 (rd l 14) [] (getL l 10 4) hb (fun x hx => by cases hx) (by omega)
        refine ⟨fun lsn kind block off data many h => ?_, fun h => n (h _ _ _ _ _ _)⟩
        have h' := h
        obtain ⟨h1, h2, _, h3⟩ := h'
        obtain ⟨_, s0, s1, s2, s3, s4, s5⟩ := recB_says h3 h1 h2
        have e1 : wrap64 (getL l 2 8 : Int) = lsn := hlsn lsn h1.1 h1.2 s3
        have e3 : (0 : Int) = block ∧ ((getL l 10 4 : Nat) : Int) = many ∧ data.length = 0 := by
          rw [s4]
          have := recOk_le h2
          unfold recOk at h2
          unfold mx
          by_cases c : block < many
          · rw [if_pos c]; omega
          · rw [if_neg c]; omega
        have e2 : ([] : List Int) = data := (List.eq_nil_of_length_eq_zero e3.2.2).symm
        rw [e1, s0, s2, e2, e3.1, e3.2.1] at y ⊢
        exact y h
  · rw [if_neg (show ¬ (l.length : Int) = 64 by omega), record_parse.j0, if_pos rfl]
    refine ⟨fun lsn kind block off data many h => ?_, fun _ => rfl⟩
    obtain ⟨h1, h2, _, h3⟩ := h
    have := (recB_says h3 h1 h2).1
    exact absurd this h64
theorem take_yes {k : Nat} {l : List Int} (hb : Bytes l) (hl : l.length ≤ 140737488351232) (hk : 710 ≤ k) {lsn kind block off : Int} {data : List Int} {many : Int} (h : Says l lsn kind block off data many) (p : Int) :
    record_Take.f k l p = some (if 0 ≤ p ∧ p ≤ 2305843009213693952 then (if lsn = p then (kind, block, off, data, many, 0) else (0, 0, 0, [], 0, 61)) else (0, 0, 0, [], 0, 1)) := by
  unfold record_Take.f
  rw [may_f, Option.bind_some]
  by_cases hp : 0 ≤ p ∧ p ≤ 2305843009213693952
  · rw [decide_eq_true hp, if_pos rfl, if_pos hp, (parse_f k l hb hl hk).1 _ _ _ _ _ _ h, Option.bind_some]
    show (if (0 : Int) = 0 then _ else _) = _
    rw [if_pos rfl]
    by_cases he : lsn = p
    · rw [if_pos he, if_pos he]
    · rw [if_neg he, if_neg he]
  · rw [decide_eq_false hp, if_neg (by decide), if_neg hp]
theorem take_no {k : Nat} {l : List Int} (hb : Bytes l) (hl : l.length ≤ 140737488351232) (hk : 710 ≤ k) (h : ∀ lsn kind block off data many, ¬ Says l lsn kind block off data many) (p : Int) :
    record_Take.f k l p = some (if 0 ≤ p ∧ p ≤ 2305843009213693952 then (0, 0, 0, [], 0, 61) else (0, 0, 0, [], 0, 1)) := by
  unfold record_Take.f
  rw [may_f, Option.bind_some]
  by_cases hp : 0 ≤ p ∧ p ≤ 2305843009213693952
  · rw [decide_eq_true hp, if_pos rfl, if_pos hp, (parse_f k l hb hl hk).2 h, Option.bind_some]
    rfl
  · rw [decide_eq_false hp, if_neg (by decide), if_neg hp]
theorem same_f (a0 a1 a2 : Int) (l : List Int) (a4 b0 b1 b2 : Int) (m : List Int) (b4 : Int) (hl : Bytes l) (hm : Bytes m) : record_Same.f a0 a1 a2 l a4 b0 b1 b2 m b4 = some (decide (a0 = b0 ∧ a1 = b1 ∧ a2 = b2 ∧ a4 = b4 ∧ l = m)) := by
  unfold record_Same.f
  rw [equal_f l m hl hm]
  by_cases c0 : a0 = b0
  · rw [if_pos c0]
    by_cases c1 : a1 = b1
    · rw [if_pos c1]
      by_cases c2 : a2 = b2
      · rw [if_pos c2]
        by_cases c4 : a4 = b4
        · rw [if_pos c4, Option.bind_some]
          simp [c0, c1, c2, c4]
        · rw [if_neg c4]; simp [c4]
      · rw [if_neg c2]; simp [c2]
    · rw [if_neg c1]; simp [c1]
  · rw [if_neg c0]; simp [c0]
theorem begun_f (k : Nat) (hk : 710 ≤ k) : atticlaw06_begun.f k = some true := by
  have hr : recOk 2 0 0 [] 2 := by decide
  have hs : Says (recB 5 2 0 0 [] 2) 5 2 0 0 [] 2 := ⟨by decide, hr, (fun x hx => by cases hx), rfl⟩
  unfold atticlaw06_begun.f
  rw [bytes_f k 5 2 0 0 [] 2 (fun x hx => by cases hx) (by omega), says_bytesA hs, Option.bind_some]
  show (record_Take.f k (recB 5 2 0 0 [] 2) 5).bind _ = _
  have h64 := recB_length 5 2 0 0 [] 2 (by decide)
  rw [take_yes (says_bytes hs) (by omega) hk hs 5, if_pos (by decide), if_pos rfl, Option.bind_some]
  show (if (0 : Int) = 0 then (if ((recB 5 2 0 0 [] 2).length : Int) = 64 then (if 14 ≤ ((recB 5 2 0 0 [] 2).length : Int) then (bytes_Equal.f ((recB 5 2 0 0 [] 2).take 14) _).bind _ else _) else _) else _) = _
  rw [if_pos rfl, if_pos (by omega), if_pos (by omega)]
  have e : (recB 5 2 0 0 [] 2).take 14 = [2, 0, 5, 0, 0, 0, 0, 0, 0, 0, 2, 0, 0, 0] := by
    rw [recB_split]
    rfl
  have hb : Bytes [2, 0, 5, 0, 0, 0, 0, 0, 0, 0, 2, 0, 0, 0] := by
    intro x hx
    simp only [List.mem_cons, List.not_mem_nil, or_false] at hx
    omega
  rw [e, equal_f _ _ hb hb, Option.bind_some, decide_eq_true rfl, if_pos rfl]
  show (if (0 : Int) = 0 then (record_Same.f 2 0 0 [] 2 2 0 0 [] 2).bind _ else _) = _
  rw [if_pos rfl, same_f _ _ _ _ _ _ _ _ _ _ (fun x hx => by cases hx) (fun x hx => by cases hx), Option.bind_some]
  rfl
end Go.Proofs.Ytglgndeoldgjbaa.Pure
