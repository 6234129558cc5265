/- Plain lemmas on a record's sector: its bytes, what they say, and that they say it back; for all records and places. -/
import Derived.Test.YtglgndeoldgjbaaPTwox7
import Derived.Test.YtglgndeoldgjbaaGet
import Derived.Lib.Bytes
import Derived.Laws.BitsAllLaws
import Derived.Laws.Bits64
namespace Go.Proofs.Ytglgndeoldgjbaa.Pure
open Go.RowKit Go.Proofs.Ytglgndeoldgjbaa.PTwo Go.Proofs.YtglgndeoldgjbaaW.PrintWords Go.Proofs.YtglgndeoldgjbaaW.PrintLast Go.Proofs.YtglgndeoldgjbaaW.PrintMore

/-! ### Equal bytes -/
theorem ofNat_inj8 {x y : Int} (hx : 0 ≤ x ∧ x < 256) (hy : 0 ≤ y ∧ y < 256) (h : UInt8.ofNat x.toNat = UInt8.ofNat y.toNat) : x = y := by
  have h2 := congrArg UInt8.toNat h
  simp only [UInt8.toNat_ofNat'] at h2
  omega
theorem map8_inj : ∀ (x y : List Int), Bytes x → Bytes y → (x.map fun n => UInt8.ofNat n.toNat) = (y.map fun n => UInt8.ofNat n.toNat) → x = y
  | [], [], _, _, _ => rfl
  | [], _ :: _, _, _, h => by simp at h
  | _ :: _, [], _, _, h => by simp at h
  | a :: x, b :: y, hx, hy, h => by
    simp only [List.map_cons, List.cons.injEq] at h
    rw [ofNat_inj8 (hx a (by simp)) (hy b (by simp)) h.1, map8_inj x y (fun z hz => hx z (by simp [hz])) (fun z hz => hy z (by simp [hz])) h.2]
theorem equal_f (x y : List Int) (hx : Bytes x) (hy : Bytes y) : bytes_Equal.f x y = some (decide (x = y)) := by
  unfold bytes_Equal.f
  congr 1
  by_cases h : x = y
  · subst h
    simp
  · rw [decide_eq_false h, Go.Lib.strOfNums_toList, Go.Lib.strOfNums_toList, beq_eq_false_iff_ne]
    intro e
    exact h (map8_inj x y hx hy e)
theorem numL_bytes (n v : Nat) : Bytes (numL n v) := by
  intro x hx
  unfold numL at hx
  obtain ⟨i, _, rfl⟩ := List.mem_map.1 hx
  have : v / 256 ^ i % 256 < 256 := Nat.mod_lt _ (by decide)
  generalize v / 256 ^ i % 256 = z at this
  omega
theorem gnum_numL (n v : Nat) : gnum (numL n v) = v % 256 ^ n := by
  induction n with
  | zero => simp [numL, gnum]; omega
  | succ n ih =>
    have h : numL (n + 1) v = numL n v ++ [((v / 256 ^ n % 256 : Nat) : Int)] := by simp [numL, List.range_succ]
    rw [h, gnum_snoc, ih, numL_length, Int.toNat_natCast, Nat.mod_pow_succ, Nat.mul_comm]
/-! ### Which records may be -/
def recOk (kind block off : Int) (data : List Int) (many : Int) : Prop :=
  (kind = 1 ∧ many = 0 ∧ 0 ≤ block ∧ block < 2048 ∧ 1 ≤ data.length ∧ data.length ≤ 44 ∧ 0 ≤ off ∧ off ≤ 256 - (data.length : Int)) ∨
  (kind = 2 ∧ 0 ≤ many ∧ many ≤ 65536 ∧ block = 0 ∧ off = 0 ∧ data.length = 0)
instance (kind block off : Int) (data : List Int) (many : Int) : Decidable (recOk kind block off data many) := by unfold recOk; infer_instance
theorem check_f (kind block off : Int) (data : List Int) (many : Int) : record_Check.f kind block off data many = some (if recOk kind block off data many then 0 else 60) := by
  unfold record_Check.f
  by_cases h1 : kind = 1
  · rw [if_pos h1]
    have : record_patch.f kind block off data many = some (decide (recOk kind block off data many)) := by
      unfold record_patch.f
      have hno : ∀ (_ : ¬ recOk kind block off data many), some false = some (decide (recOk kind block off data many)) := fun h => by rw [decide_eq_false h]
      by_cases c1 : many = 0
      · rw [if_pos c1]
        by_cases c2 : block ≥ 0
        · rw [if_pos c2]
          by_cases c3 : block < 2048
          · rw [if_pos c3]
            by_cases c4 : (data.length : Int) ≥ 1
            · rw [if_pos c4]
              by_cases c5 : (data.length : Int) ≤ 44
              · rw [if_pos c5]
                by_cases c6 : off ≥ 0
                · rw [if_pos c6, w64id (by omega) (by omega)]
                  congr 1
                  refine decide_eq_decide.2 ?_
                  unfold recOk
                  omega
                · rw [if_neg c6]; exact hno (by unfold recOk; omega)
              · rw [if_neg c5]; exact hno (by unfold recOk; omega)
            · rw [if_neg c4]; exact hno (by unfold recOk; omega)
          · rw [if_neg c3]; exact hno (by unfold recOk; omega)
        · rw [if_neg c2]; exact hno (by unfold recOk; omega)
      · rw [if_neg c1]; exact hno (by unfold recOk; omega)
    rw [this, Option.bind_some]
    by_cases h : recOk kind block off data many
    · rw [decide_eq_true h, if_pos rfl, if_pos h]
    · rw [decide_eq_false h, if_neg (by decide), if_neg h]
  · rw [if_neg h1]
    have hno : ∀ (_ : ¬ recOk kind block off data many), some (60 : Int) = some (if recOk kind block off data many then 0 else 60) := fun h => by rw [if_neg h]
    by_cases h2 : kind = 2
    · rw [if_pos h2]
      by_cases c1 : many ≥ 0
      · rw [if_pos c1]
        by_cases c2 : many ≤ 65536
        · rw [if_pos c2]
          by_cases c3 : block = 0
          · rw [if_pos c3]
            by_cases c4 : off = 0
            · rw [if_pos c4]
              by_cases c5 : (data.length : Int) = 0
              · rw [if_pos c5, if_pos (by unfold recOk; omega)]
              · rw [if_neg c5]; exact hno (by unfold recOk; omega)
            · rw [if_neg c4]; exact hno (by unfold recOk; omega)
          · rw [if_neg c3]; exact hno (by unfold recOk; omega)
        · rw [if_neg c2]; exact hno (by unfold recOk; omega)
      · rw [if_neg c1]; exact hno (by unfold recOk; omega)
    · rw [if_neg h2]; exact hno (by unfold recOk; omega)
/-! ### A record's sector -/
def recH (lsn kind block off : Int) (data : List Int) (many : Int) : List Int :=
  [kind, (data.length : Int)] ++ numL 8 lsn.toNat ++ numL 4 (mx block many).toNat ++ [off, 0] ++ data ++ List.replicate (44 - data.length) 0
def recB (lsn kind block off : Int) (data : List Int) (many : Int) : List Int :=
  recH lsn kind block off data many ++ numL 4 (crcSum (recH lsn kind block off data many))
theorem copied (a b c d : List Int) (i n m : Nat) (ha : a.length = i) (hb : b.length = d.length) (hn : n = (a ++ b ++ c).length - i) (hm : m = i + d.length) : (a ++ b ++ c).take i ++ d.take n ++ (a ++ b ++ c).drop m = a ++ d ++ c := by
  subst hn hm
  have h1 : (a ++ b ++ c).take i = a := by rw [List.append_assoc, List.take_left' ha]
  have h2 : (a ++ b ++ c).drop (i + d.length) = c := by rw [List.drop_left' (by rw [List.length_append]; omega)]
  rw [h1, h2, List.take_of_length_le (by simp only [List.length_append]; omega)]
theorem recH_length (lsn kind block off : Int) (data : List Int) (many : Int) (h : data.length ≤ 44) : (recH lsn kind block off data many).length = 60 := by
  unfold recH
  simp only [List.length_append, List.length_cons, List.length_nil, numL_length, List.length_replicate]
  omega
theorem recB_length (lsn kind block off : Int) (data : List Int) (many : Int) (h : data.length ≤ 44) : (recB lsn kind block off data many).length = 64 := by
  unfold recB
  rw [List.length_append, recH_length _ _ _ _ _ _ h, numL_length]
theorem recOk_le {kind block off : Int} {data : List Int} {many : Int} (h : recOk kind block off data many) : data.length ≤ 44 ∧ 1 ≤ kind ∧ kind ≤ 2 ∧ 0 ≤ off ∧ off ≤ 255 ∧ 0 ≤ mx block many ∧ mx block many ≤ 65536 := by
  unfold recOk at h
  unfold mx
  rcases h with h | h
  · rw [if_neg (by omega)]; omega
  · by_cases hm : block < many
    · rw [if_pos hm]; omega
    · rw [if_neg hm]; omega
theorem bytes_append {a b : List Int} (ha : Bytes a) (hb : Bytes b) : Bytes (a ++ b) := by
  intro x hx
  rcases List.mem_append.1 hx with h | h
  · exact ha x h
  · exact hb x h
theorem recH_bytes {lsn kind block off : Int} {data : List Int} {many : Int} (h : recOk kind block off data many) (hd : Bytes data) : Bytes (recH lsn kind block off data many) := by
  have := recOk_le h
  unfold recH
  refine bytes_append (bytes_append (bytes_append (bytes_append (bytes_append ?_ (numL_bytes _ _)) (numL_bytes _ _)) ?_) hd) ?_
  · intro x hx
    simp only [List.mem_cons, List.not_mem_nil, or_false] at hx
    omega
  · intro x hx
    simp only [List.mem_cons, List.not_mem_nil, or_false] at hx
    omega
  · intro x hx
    have := (List.mem_replicate.1 hx).2
    omega
theorem recB_bytes {lsn kind block off : Int} {data : List Int} {many : Int} (h : recOk kind block off data many) (hd : Bytes data) : Bytes (recB lsn kind block off data many) :=
  bytes_append (recH_bytes h hd) (numL_bytes _ _)
/-- What Bytes answers. -/
def bytesA (lsn kind block off : Int) (data : List Int) (many : Int) : List Int × Int :=
  if lsn < 0 ∨ lsn > 2305843009213693952 then ([], 1) else if recOk kind block off data many then (recB lsn kind block off data many, 0) else ([], 60)
theorem may_f (lsn : Int) : record_may.f lsn = some (decide (0 ≤ lsn ∧ lsn ≤ 2305843009213693952)) := by
  unfold record_may.f
  by_cases h : lsn ≥ 0
  · rw [if_pos h]
    congr 1
    refine decide_eq_decide.2 ?_
    omega
  · rw [if_neg h, decide_eq_false (by omega)]
theorem num_ok (k n : Nat) (v : Int) (h0 : 0 ≤ v) (hv : v < 18446744073709551616) (hn : 1 ≤ n ∧ n ≤ 8) (hk : 10 ≤ k) : word_Num.f k (n : Int) (IntKind.u64.wrap v) = some (numL n v.toNat) := by
  rw [u64w _ h0 hv]
  obtain ⟨m, rfl⟩ : ∃ m : Nat, v = m := ⟨v.toNat, by omega⟩
  rw [num_f k n m hk, if_neg (by omega), Int.toNat_natCast, Int.toNat_natCast]
theorem bytes_f (k : Nat) (lsn kind block off : Int) (data : List Int) (many : Int) (hd : Bytes data) (hk : 700 ≤ k) : record_Bytes.f k lsn kind block off data many = some (bytesA lsn kind block off data many) := by
  unfold record_Bytes.f bytesA
  rw [may_f, Option.bind_some]
  by_cases h : 0 ≤ lsn ∧ lsn ≤ 2305843009213693952
  · rw [decide_eq_true h, if_pos rfl, check_f, Option.bind_some, if_neg (show ¬ (lsn < 0 ∨ lsn > 2305843009213693952) by omega)]
    by_cases hr : recOk kind block off data many
    · have hle := recOk_le hr
      rw [if_pos hr, if_pos rfl, if_pos hr, if_pos (by decide)]
      have hN8 : word_Num.f k 8 (IntKind.u64.wrap lsn) = _ := num_ok k 8 lsn h.1 (by omega) (by decide) (by omega)
      have hN4 : word_Num.f k 4 (IntKind.u64.wrap (mx block many)) = _ := num_ok k 4 (mx block many) hle.2.2.2.2.2.1 (by omega) (by decide) (by omega)
      have hS := sum_f (recH lsn kind block off data many) (recH_bytes hr hd) (by rw [recH_length _ _ _ _ _ _ hle.1]; decide) k (by rw [recH_length _ _ _ _ _ _ hle.1]; omega)
      have hcs := crcSum_lt (recH lsn kind block off data many) (recH_bytes hr hd)
      have hNS : word_Num.f k 4 (IntKind.u64.wrap (crcSum (recH lsn kind block off data many) : Int)) = _ := num_ok k 4 (crcSum (recH lsn kind block off data many) : Int) (by omega) (by omega) (by decide) (by omega)
      rw [Int.toNat_natCast] at hNS
      have l8 := numL_length 8 lsn.toNat
      have l4 := numL_length 4 (mx block many).toNat
      have lS := numL_length 4 (crcSum (recH lsn kind block off data many))
      have e1 : ((List.replicate 64 (0 : Int)).set (0 : Int).toNat (kind % 256)).set (1 : Int).toNat ((data.length : Int) % 256) = [kind, (data.length : Int)] ++ List.replicate 8 0 ++ List.replicate 54 0 := by
        rw [show kind % 256 = kind by omega, show (data.length : Int) % 256 = data.length by omega]
        rfl
      simp only [Option.bind_some]
      rw [e1, hN8]
      simp only [Option.bind_some]
      rw [copied [kind, (data.length : Int)] (List.replicate 8 0) (List.replicate 54 0) (numL 8 lsn.toNat) 2 _ _ rfl (by rw [l8]; rfl) rfl rfl]
      have e2 : [kind, (data.length : Int)] ++ numL 8 lsn.toNat ++ List.replicate 54 0 = ([kind, (data.length : Int)] ++ numL 8 lsn.toNat) ++ List.replicate 4 0 ++ List.replicate 50 0 := by rw [List.append_assoc _ (List.replicate 4 0)]; rfl
      rw [e2, hN4]
      simp only [Option.bind_some]
      rw [copied ([kind, (data.length : Int)] ++ numL 8 lsn.toNat) (List.replicate 4 0) (List.replicate 50 0) (numL 4 (mx block many).toNat) 10 _ _ (by rw [List.length_append, l8]; rfl) (by rw [l4]; rfl) rfl rfl]
      have e3 : ([kind, (data.length : Int)] ++ numL 8 lsn.toNat ++ numL 4 (mx block many).toNat ++ List.replicate 50 0).set (14 : Int).toNat (off % 256) = ([kind, (data.length : Int)] ++ numL 8 lsn.toNat ++ numL 4 (mx block many).toNat ++ [off, 0]) ++ List.replicate data.length 0 ++ List.replicate (48 - data.length) 0 := by
        rw [List.set_append_right _ _ (by simp only [List.length_append, List.length_cons, List.length_nil, l8, l4]; decide), List.append_assoc _ (List.replicate data.length 0), List.replicate_append_replicate, show data.length + (48 - data.length) = 48 by omega, show off % 256 = off by omega, List.append_assoc _ [off, 0]]
        congr 1
      rw [e3]
      rw [copied ([kind, (data.length : Int)] ++ numL 8 lsn.toNat ++ numL 4 (mx block many).toNat ++ [off, 0]) (List.replicate data.length 0) (List.replicate (48 - data.length) 0) data 16 _ _ (by simp only [List.length_append, List.length_cons, List.length_nil, l8, l4]) (by rw [List.length_replicate]) rfl rfl]
      have e4 : ([kind, (data.length : Int)] ++ numL 8 lsn.toNat ++ numL 4 (mx block many).toNat ++ [off, 0]) ++ data ++ List.replicate (48 - data.length) 0 = recH lsn kind block off data many ++ List.replicate 4 0 ++ [] := by
        unfold recH
        rw [List.append_nil, List.append_assoc _ (List.replicate (44 - data.length) 0), List.replicate_append_replicate, show 44 - data.length + 4 = 48 - data.length by omega]
      rw [e4]
      have e5 : (recH lsn kind block off data many ++ List.replicate 4 0 ++ []).take 60 = recH lsn kind block off data many := by
        rw [List.append_assoc, List.take_left' (recH_length _ _ _ _ _ _ hle.1)]
      rw [e5, hS]
      simp only [Option.bind_some]
      rw [hNS]
      simp only [Option.bind_some]
      have e6 := copied (recH lsn kind block off data many) (List.replicate 4 0) [] (numL 4 (crcSum (recH lsn kind block off data many))) 60 _ _ (recH_length _ _ _ _ _ _ hle.1) (by rw [lS]; rfl) rfl rfl
      rw [e5] at e6
      rw [e6]
      simp only [List.length_replicate]
      rw [List.append_nil, if_pos (by decide), if_pos (by decide), if_pos (by decide), if_pos (by decide), if_pos (by decide), if_pos (by decide), if_pos (by decide)]
      rfl
    · rw [if_neg hr, if_neg (by decide), if_neg hr]
  · rw [decide_eq_false h, if_neg (by decide), if_pos (by omega)]
/-! ### What a sector says -/
theorem recB_split (lsn kind block off : Int) (data : List Int) (many : Int) : recB lsn kind block off data many = kind :: (data.length : Int) :: (numL 8 lsn.toNat ++ (numL 4 (mx block many).toNat ++ (off :: 0 :: (data ++ (List.replicate (44 - data.length) 0 ++ numL 4 (crcSum (recH lsn kind block off data many))))))) := by
  unfold recB
  conv => lhs; arg 1; unfold recH
  simp only [List.append_assoc, List.cons_append, List.nil_append]
theorem recB_says {lsn kind block off : Int} {data : List Int} {many : Int} {l : List Int} (hl : recB lsn kind block off data many = l) (hlsn : 0 ≤ lsn ∧ lsn ≤ 2305843009213693952) (hr : recOk kind block off data many) :
    l.length = 64 ∧ rd l 0 = kind ∧ rd l 1 = data.length ∧ rd l 14 = off ∧ getL l 2 8 = lsn.toNat ∧ getL l 10 4 = (mx block many).toNat ∧ (l.take (16 + data.length)).drop 16 = data := by
  have hle := recOk_le hr
  have h64 := recB_length lsn kind block off data many hle.1
  rw [hl] at h64
  have hs := recB_split lsn kind block off data many
  rw [hl] at hs
  have l8 := numL_length 8 lsn.toNat
  have l4 := numL_length 4 (mx block many).toNat
  have p2 : l = [kind, (data.length : Int)] ++ (numL 8 lsn.toNat ++ (numL 4 (mx block many).toNat ++ (off :: 0 :: (data ++ (List.replicate (44 - data.length) 0 ++ numL 4 (crcSum (recH lsn kind block off data many))))))) := hs
  have p10 : l = ([kind, (data.length : Int)] ++ numL 8 lsn.toNat) ++ (numL 4 (mx block many).toNat ++ (off :: 0 :: (data ++ (List.replicate (44 - data.length) 0 ++ numL 4 (crcSum (recH lsn kind block off data many)))))) := by rw [p2, List.append_assoc]
  have p14 : l = ([kind, (data.length : Int)] ++ numL 8 lsn.toNat ++ numL 4 (mx block many).toNat) ++ (off :: 0 :: (data ++ (List.replicate (44 - data.length) 0 ++ numL 4 (crcSum (recH lsn kind block off data many))))) := by rw [p10, List.append_assoc _ (numL 4 _)]
  have p16 : l = ([kind, (data.length : Int)] ++ numL 8 lsn.toNat ++ numL 4 (mx block many).toNat ++ [off, 0] ++ data) ++ (List.replicate (44 - data.length) 0 ++ numL 4 (crcSum (recH lsn kind block off data many))) := by
    rw [p14]
    simp only [List.append_assoc, List.cons_append, List.nil_append]
  refine ⟨h64, ?_, ?_, ?_, ?_, ?_, ?_⟩
  · rw [hs]; rfl
  · rw [hs]; rfl
  · unfold rd
    rw [p14, List.getD_eq_getElem?_getD, List.getElem?_append_right (by simp only [List.length_append, List.length_cons, List.length_nil, l8, l4]; decide)]
    simp only [List.length_append, List.length_cons, List.length_nil, l8, l4]
    rfl
  · unfold getL
    rw [p2, List.drop_left' (show [kind, (data.length : Int)].length = 2 from rfl), List.take_left' l8, gnum_numL]
    omega
  · unfold getL
    rw [p10, List.drop_left' (by rw [List.length_append, l8]; rfl), List.take_left' l4, gnum_numL]
    omega
  · rw [p16, List.take_left' (by simp only [List.length_append, List.length_cons, List.length_nil, l8, l4]), List.drop_left' (by simp only [List.length_append, List.length_cons, List.length_nil, l8, l4])]
/-- The sector l is that of a record at a place. -/
def Says (l : List Int) (lsn kind block off : Int) (data : List Int) (many : Int) : Prop :=
  (0 ≤ lsn ∧ lsn ≤ 2305843009213693952) ∧ recOk kind block off data many ∧ Bytes data ∧ recB lsn kind block off data many = l
theorem says_one {l : List Int} {lsn kind block off : Int} {data : List Int} {many : Int} {lsn' kind' block' off' : Int} {data' : List Int} {many' : Int} (h : Says l lsn kind block off data many) (h' : Says l lsn' kind' block' off' data' many') :
    lsn = lsn' ∧ kind = kind' ∧ block = block' ∧ off = off' ∧ data = data' ∧ many = many' := by
  obtain ⟨a1, a2, _, a3⟩ := h
  obtain ⟨b1, b2, _, b3⟩ := h'
  obtain ⟨_, s0, s1, s2, s3, s4, s5⟩ := recB_says a3 a1 a2
  obtain ⟨_, t0, t1, t2, t3, t4, t5⟩ := recB_says b3 b1 b2
  have hk : kind = kind' := by rw [← s0, t0]
  have hl : data.length = data'.length := by have := s1.symm.trans t1; omega
  have ho : off = off' := by rw [← s2, t2]
  have hd : data = data' := by rw [← s5, ← t5, hl]
  have hm : mx block many = mx block' many' := by
    have := recOk_le a2
    have := recOk_le b2
    have := s4.symm.trans t4
    omega
  have hL : lsn = lsn' := by have := s3.symm.trans t3; omega
  subst hk ho hd hL
  unfold recOk at a2 b2
  unfold mx at hm
  have : block = block' ∧ many = many' := by
    by_cases c1 : block < many <;> by_cases c2 : block' < many' <;> simp only [c1, c2, if_true, if_false] at hm <;> omega
  exact ⟨rfl, rfl, this.1, rfl, rfl, this.2⟩
theorem bytesA_zero {lsn kind block off : Int} {data : List Int} {many : Int} (hd : Bytes data) (h : (bytesA lsn kind block off data many).2 = 0) : Says (bytesA lsn kind block off data many).1 lsn kind block off data many := by
  unfold bytesA at h ⊢
  by_cases h1 : lsn < 0 ∨ lsn > 2305843009213693952
  · rw [if_pos h1] at h
    cases h
  · rw [if_neg h1] at h ⊢
    by_cases h2 : recOk kind block off data many
    · rw [if_pos h2]
      exact ⟨by omega, h2, hd, rfl⟩
    · rw [if_neg h2] at h
      cases h
theorem says_bytesA {l : List Int} {lsn kind block off : Int} {data : List Int} {many : Int} (h : Says l lsn kind block off data many) : bytesA lsn kind block off data many = (l, 0) := by
  obtain ⟨h1, h2, _, h3⟩ := h
  unfold bytesA
  rw [if_neg (by omega), if_pos h2, h3]
theorem says_bytes {l : List Int} {lsn kind block off : Int} {data : List Int} {many : Int} (h : Says l lsn kind block off data many) : Bytes l := by
  obtain ⟨_, h2, h3, rfl⟩ := h
  exact recB_bytes h2 h3
end Go.Proofs.Ytglgndeoldgjbaa.Pure
