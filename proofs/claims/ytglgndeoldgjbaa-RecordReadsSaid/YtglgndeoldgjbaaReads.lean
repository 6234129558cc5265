/- What is read of a sector, by the code and by the document's answer: contracts in plain words. -/
import Derived.Test.YtglgndeoldgjbaaRParse4
import Derived.Test.YtglgndeoldgjbaaPTwox7
namespace Go.Proofs.Ytglgndeoldgjbaa.Pure
open Go.RowKit Go.Proofs.Ytglgndeoldgjbaa Go.Proofs.Ytglgndeoldgjbaa.PTwo Go.Proofs.Ytglgndeoldgjbaa.Mem Go.Proofs.YtglgndeoldgjbaaW.PrintWords Go.Proofs.YtglgndeoldgjbaaW.PrintLast Go.Proofs.YtglgndeoldgjbaaW.PrintMore
attribute [local go_sem] max2_int min2_int max_two min_two
set_option linter.unusedVariables false
set_option linter.unusedSimpArgs false
set_option linter.unusedSectionVars false

/-- What the document's reading answers: the record that the bytes are, or that they are none. -/
def Parsed (l : List Int) (a0 a1 a2 : Int) (data : List Int) (a4 lsn : Int) (is : Bool) : Prop :=
  (is = true ∧ Says l lsn a0 a1 a2 data a4) ∨ (is = false ∧ ∀ lsn kind block off data many, ¬ Says l lsn kind block off data many)
section
variable {w : World} {A : Option Addr} {c : Nat} {l : List Int} (hC : Kd.C (Kd.int .u8) w A l.length l) (hc : l.length ≤ c) (hb : Bytes l) (hl : l.length ≤ 140737488351232)
include hC hc hb hl
theorem take_c {p r1 r2 r3 r5 r6 : Int} {r4 : List Int} (h : record_Take.f 710 l p = some (r1, r2, r3, r4, r5, r6)) : Calls Try.prog 18 #[.slice A l.length c, .int .i64 p] w fun e w' => ∃ B k, e = .returned (.tuple #[.agg #[.int .i64 r1, .int .i64 r2, .int .i64 r3, .slice B r4.length k, .int .i64 r5], .int .i64 r6]) ∧ Own w' w.heap.size B k r4 ∧ Below w.heap.size w w' := by
  refine (record_Take.calls 710 A c l p r1 r2 r3 r4 r5 r6 w hC hc h).mono ?_
  rintro e w' ⟨v, rfl, ho, hb⟩
  obtain ⟨B, k, rfl, ho2⟩ := own_of ho
  exact ⟨B, k, rfl, ho2, hb⟩
theorem lsn_c {r1 r2 : Int} (h : record_Lsn.f 710 l = some (r1, r2)) : Calls Try.prog 20 #[.slice A l.length c] w fun e w' => e = .returned (.tuple #[.int .i64 r1, .int .i64 r2]) ∧ Below w.heap.size w w' :=
  record_Lsn.calls 710 A c l r1 r2 w hC hc h
end
def TakeSays (l : List Int) (p r1 r2 r3 : Int) (r4 : List Int) (r5 r6 : Int) : Prop :=
    ((0 ≤ p ∧ p ≤ 2305843009213693952 ∧ Says l p r1 r2 r3 r4 r5 ∧ r6 = 0) ∨
     (0 ≤ p ∧ p ≤ 2305843009213693952 ∧ (∀ kind block off data many, ¬ Says l p kind block off data many) ∧ r1 = 0 ∧ r2 = 0 ∧ r3 = 0 ∧ r4 = [] ∧ r5 = 0 ∧ r6 = 61) ∨
     (¬ (0 ≤ p ∧ p ≤ 2305843009213693952) ∧ r1 = 0 ∧ r2 = 0 ∧ r3 = 0 ∧ r4 = [] ∧ r5 = 0 ∧ r6 = 1))
theorem take_is (l : List Int) (hb : Bytes l) (hl : l.length ≤ 140737488351232) (p : Int) : ∃ r1 r2 r3 r4 r5 r6, record_Take.f 710 l p = some (r1, r2, r3, r4, r5, r6) ∧ Bytes r4 ∧
    TakeSays l p r1 r2 r3 r4 r5 r6 := by
  by_cases hs : ∃ lsn kind block off data many, Says l lsn kind block off data many
  · obtain ⟨lsn, kind, block, off, data, many, hs⟩ := hs
    have h := take_yes hb hl (Nat.le_refl 710) hs p
    by_cases hp : 0 ≤ p ∧ p ≤ 2305843009213693952
    · rw [if_pos hp] at h
      by_cases he : lsn = p
      · rw [if_pos he] at h
        subst he
        exact ⟨_, _, _, _, _, _, h, hs.2.2.1, .inl ⟨hp.1, hp.2, hs, rfl⟩⟩
      · rw [if_neg he] at h
        exact ⟨_, _, _, _, _, _, h, (fun x hx => by cases hx), .inr (.inl ⟨hp.1, hp.2, fun k b o d m hq => he (says_one hs hq).1, rfl, rfl, rfl, rfl, rfl, rfl⟩)⟩
    · rw [if_neg hp] at h
      exact ⟨_, _, _, _, _, _, h, (fun x hx => by cases hx), .inr (.inr ⟨hp, rfl, rfl, rfl, rfl, rfl, rfl⟩)⟩
  · have hn : ∀ lsn kind block off data many, ¬ Says l lsn kind block off data many := fun a b c d e f h => hs ⟨a, b, c, d, e, f, h⟩
    have h := take_no hb hl (Nat.le_refl 710) hn p
    by_cases hp : 0 ≤ p ∧ p ≤ 2305843009213693952
    · rw [if_pos hp] at h
      exact ⟨_, _, _, _, _, _, h, (fun x hx => by cases hx), .inr (.inl ⟨hp.1, hp.2, fun k b o d m => hn _ _ _ _ _ _, rfl, rfl, rfl, rfl, rfl, rfl⟩)⟩
    · rw [if_neg hp] at h
      exact ⟨_, _, _, _, _, _, h, (fun x hx => by cases hx), .inr (.inr ⟨hp, rfl, rfl, rfl, rfl, rfl, rfl⟩)⟩
def LsnSays (l : List Int) (r1 r2 : Int) : Prop :=
    ((r2 = 0 ∧ ∃ kind block off data many, Says l r1 kind block off data many) ∨
     (r1 = 0 ∧ r2 = 61 ∧ ∀ lsn kind block off data many, ¬ Says l lsn kind block off data many))
theorem lsn_is (l : List Int) (hb : Bytes l) (hl : l.length ≤ 140737488351232) : ∃ r1 r2, record_Lsn.f 710 l = some (r1, r2) ∧
    LsnSays l r1 r2 := by
  unfold record_Lsn.f
  by_cases hs : ∃ lsn kind block off data many, Says l lsn kind block off data many
  · obtain ⟨lsn, kind, block, off, data, many, hs⟩ := hs
    rw [(parse_f 710 l hb hl (Nat.le_refl _)).1 _ _ _ _ _ _ hs]
    exact ⟨_, _, rfl, .inl ⟨rfl, _, _, _, _, _, hs⟩⟩
  · have hn : ∀ lsn kind block off data many, ¬ Says l lsn kind block off data many := fun a b c d e f h => hs ⟨a, b, c, d, e, f, h⟩
    rw [(parse_f 710 l hb hl (Nat.le_refl _)).2 hn]
    exact ⟨_, _, rfl, .inr ⟨rfl, rfl, hn⟩⟩
section
variable {w : World} {A : Option Addr} {c : Nat} {l : List Int} (hC : Kd.C (Kd.int .u8) w A l.length l) (hc : l.length ≤ c) (hb : Bytes l) (hl : l.length ≤ 140737488351232)
include hC hc hb hl
theorem rparse_c : ∃ a0 a1 a2 data a4 lsn is, Bytes data ∧ data.length ≤ 44 ∧ Parsed l a0 a1 a2 data a4 lsn is ∧ Calls Try.prog 29 #[.slice A l.length c] w fun e w' => ∃ B k, e = .returned (.tuple #[.agg #[.int .i64 a0, .int .i64 a1, .int .i64 a2, .slice B data.length k, .int .i64 a4], .int .i64 lsn, .bool is]) ∧ Own w' w.heap.size B k data ∧ Below w.heap.size w w' := by
  have hnil : Bytes [] := fun x hx => by cases hx
  have nothing : ∀ (hn : ∀ lsn kind block off data many, ¬ Says l lsn kind block off data many) (h : Calls Try.prog 29 #[.slice A l.length c] w fun e w' => e = .returned (.tuple #[.agg #[.int .i64 0, .int .i64 0, .int .i64 0, .slice none 0 0, .int .i64 0], .int .i64 0, .bool false]) ∧ Below w.heap.size w w'),
      ∃ a0 a1 a2 data a4 lsn is, Bytes data ∧ data.length ≤ 44 ∧ Parsed l a0 a1 a2 data a4 lsn is ∧ Calls Try.prog 29 #[.slice A l.length c] w fun e w' => ∃ B k, e = .returned (.tuple #[.agg #[.int .i64 a0, .int .i64 a1, .int .i64 a2, .slice B data.length k, .int .i64 a4], .int .i64 lsn, .bool is]) ∧ Own w' w.heap.size B k data ∧ Below w.heap.size w w' := by
    intro hn h
    refine ⟨0, 0, 0, [], 0, 0, false, hnil, by decide, .inr ⟨rfl, hn⟩, h.mono ?_⟩
    rintro e w' ⟨rfl, hb⟩
    exact ⟨none, 0, rfl, own_nil _ _, hb⟩
  by_cases h64 : l.length = 64
  case neg =>
    refine nothing (fun lsn kind block off data many h => ?_) (rparse_long hC hc hb hl h64)
    obtain ⟨h1, h2, _, h3⟩ := h
    exact h64 (recB_says h3 h1 h2).1
  by_cases h1 : rd l 1 > 44
  case pos =>
    refine nothing (fun lsn kind block off data many h => ?_) (rparse_big hC hc hb hl h64 h1)
    obtain ⟨g1, h2, _, h3⟩ := h
    obtain ⟨_, _, s1, _⟩ := recB_says h3 g1 h2
    have := recOk_le h2
    omega
  by_cases hbig : getL l 2 8 > 2305843009213693952
  case pos =>
    refine nothing (fun lsn kind block off data many h => ?_) (rparse_far hC hc hb hl h64 h1 _ rfl hbig)
    obtain ⟨g1, h2, _, h3⟩ := h
    obtain ⟨_, _, _, _, s3, _⟩ := recB_says h3 g1 h2
    omega
  have lt4 := getL_lt l 10 4 hb (by omega)
  have b1 := rd_byte hb (show 1 < l.length by omega)
  change 0 ≤ rd l 1 ∧ rd l 1 < 256 at b1
  obtain ⟨v, hv⟩ : ∃ v, getL l 2 8 = v := ⟨_, rfl⟩
  obtain ⟨mm, hm⟩ : ∃ v, getL l 10 4 = v := ⟨_, rfl⟩
  rw [hv] at hbig
  rw [hm] at lt4
  by_cases hk : rd l 0 = 1
  · obtain ⟨n1, hn1⟩ : ∃ n : Nat, rd l 1 = n := ⟨(rd l 1).toNat, by omega⟩
    obtain ⟨o, ho⟩ : ∃ o, rd l 14 = o := ⟨_, rfl⟩
    obtain ⟨dt, hdt⟩ : ∃ o, (l.take (16 + n1)).drop 16 = o := ⟨_, rfl⟩
    obtain ⟨r, n, hr⟩ : ∃ r n, bytesA (v : Int) 1 (mm : Int) o dt 0 = (r, n) := ⟨_, _, rfl⟩
    have hdb : Bytes dt := fun x hx => by
      rw [← hdt] at hx
      exact hb x (List.mem_of_mem_take (List.mem_of_mem_drop hx))
    have hdl : dt.length ≤ 44 := by rw [← hdt, List.length_drop, List.length_take]; omega
    refine ⟨1, mm, o, dt, 0, v, _, hdb, hdl, ?_, rparse_one hC hc hb hl h64 n1 hn1 (by omega) v hv (by omega) hk mm hm o ho dt hdt r n hr⟩
    by_cases hq : n = 0 ∧ r = l
    · refine .inl ⟨decide_eq_true hq, ?_⟩
      have h2 := bytesA_zero hdb (by rw [hr]; exact hq.1)
      rw [hr] at h2
      rw [← hq.2]
      exact h2
    · refine .inr ⟨decide_eq_false hq, fun lsn kind block off data many h => hq ?_⟩
      have h' := h
      obtain ⟨g1, g2, _, g3⟩ := h'
      obtain ⟨_, s0, s1, s2, s3, s4, s5⟩ := recB_says g3 g1 g2
      have e2 : dt = data := by rw [← hdt, show n1 = data.length by omega, s5]
      have e3 : (mm : Int) = block ∧ 0 = many := by
        rw [hm] at s4
        have := recOk_le g2
        unfold recOk at g2
        unfold mx at s4 this
        by_cases c : block < many
        · rw [if_pos c] at s4 this; omega
        · rw [if_neg c] at s4 this; omega
      have e1 : (v : Int) = lsn := by omega
      have h4 := says_bytesA h
      rw [← s0, hk, ← s2, ho, ← e2, ← e3.1, ← e3.2, ← e1, hr] at h4
      injection h4 with h5 h6
      exact ⟨h6, h5⟩
  · obtain ⟨d, hd⟩ : ∃ o, rd l 0 = o := ⟨_, rfl⟩
    obtain ⟨r, n, hr⟩ : ∃ r n, bytesA (v : Int) d 0 0 [] (mm : Int) = (r, n) := ⟨_, _, rfl⟩
    refine ⟨d, 0, 0, [], mm, v, _, hnil, by decide, ?_, rparse_two hC hc hb hl h64 h1 v hv (by omega) d hd (by omega) mm hm r n hr⟩
    by_cases hq : n = 0 ∧ r = l
    · refine .inl ⟨decide_eq_true hq, ?_⟩
      have h2 := bytesA_zero hnil (by rw [hr]; exact hq.1)
      rw [hr] at h2
      rw [← hq.2]
      exact h2
    · refine .inr ⟨decide_eq_false hq, fun lsn kind block off data many h => hq ?_⟩
      have h' := h
      obtain ⟨g1, g2, _, g3⟩ := h'
      obtain ⟨_, s0, s1, s2, s3, s4, s5⟩ := recB_says g3 g1 g2
      have e3 : 0 = block ∧ 0 = off ∧ (mm : Int) = many ∧ data.length = 0 := by
        rw [hm] at s4
        have := recOk_le g2
        unfold recOk at g2
        unfold mx at s4 this
        by_cases c : block < many
        · rw [if_pos c] at s4 this; omega
        · rw [if_neg c] at s4 this; omega
      have e2 : [] = data := (List.eq_nil_of_length_eq_zero e3.2.2.2).symm
      have e1 : (v : Int) = lsn := by omega
      have h4 := says_bytesA h
      rw [← s0, hd, ← e2, ← e3.1, ← e3.2.1, ← e3.2.2.1, ← e1, hr] at h4
      injection h4 with h5 h6
      exact ⟨h6, h5⟩
end
end Go.Proofs.Ytglgndeoldgjbaa.Pure
