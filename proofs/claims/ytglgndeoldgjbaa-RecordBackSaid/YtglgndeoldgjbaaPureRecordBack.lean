/- A record is read from its sector as it was, at its place and at no other one, and what is read of any bytes has just these bytes; for all records and bytes of at most 5000 bytes. -/
import Derived.Test.YtglgndeoldgjbaaPTwox8
import Derived.Test.YtglgndeoldgjbaaTakes
namespace Go.Proofs.Ytglgndeoldgjbaa.Pure
open Go.RowKit Go.Proofs.Ytglgndeoldgjbaa.PTwo Go.Proofs.YtglgndeoldgjbaaW.PrintWords Go.Proofs.YtglgndeoldgjbaaW.PrintLast Go.Proofs.YtglgndeoldgjbaaW.PrintMore

theorem lsn_yes {k : Nat} {l : List Int} (hb : Bytes l) (hl : l.length ≤ 140737488351232) (hk : 710 ≤ k) {lsn kind block off : Int} {data : List Int} {many : Int} (h : Says l lsn kind block off data many) : record_Lsn.f k l = some (lsn, 0) := by
  unfold record_Lsn.f
  rw [(parse_f k l hb hl hk).1 _ _ _ _ _ _ h, Option.bind_some]
theorem lsn_no {k : Nat} {l : List Int} (hb : Bytes l) (hl : l.length ≤ 140737488351232) (hk : 710 ≤ k) (h : ∀ lsn kind block off data many, ¬ Says l lsn kind block off data many) : record_Lsn.f k l = some (0, 61) := by
  unfold record_Lsn.f
  rw [(parse_f k l hb hl hk).2 h, Option.bind_some]
theorem back_j2 (k : Nat) (l : List Int) (hb : Bytes l) (hl : l.length ≤ 140737488351232) (hk : 720 ≤ k) : atticlaw06_RecordBack.j2 k l = some true := by
  obtain ⟨k, rfl⟩ : ∃ j, k = j + 1 := ⟨k - 1, by omega⟩
  rw [atticlaw06_RecordBack.j2]
  by_cases h : ∃ lsn kind block off data many, Says l lsn kind block off data many
  · obtain ⟨lsn, kind, block, off, data, many, h⟩ := h
    rw [lsn_yes hb hl (by omega) h, Option.bind_some]
    show (if (0 : Int) = 0 then (record_Take.f k l lsn).bind _ else _) = _
    rw [if_pos rfl, take_yes hb hl (by omega) h lsn, if_pos h.1, if_pos rfl, Option.bind_some]
    show (record_Bytes.f k lsn kind block off data many).bind _ = _
    rw [bytes_f k lsn kind block off data many h.2.2.1 (by omega), says_bytesA h, Option.bind_some]
    show (if (0 : Int) = 0 then (if (0 : Int) = 0 then (bytes_Equal.f l l).bind _ else _) else _) = _
    rw [if_pos rfl, if_pos rfl, equal_f l l hb hb, Option.bind_some, decide_eq_true rfl]
  · rw [lsn_no hb hl (by omega) (fun a b c d e f hs => h ⟨a, b, c, d, e, f, hs⟩), Option.bind_some]
    rfl
theorem back_j1 (k : Nat) (lsn p : Int) (m l : List Int) (hb : Bytes m) (hl : m.length ≤ 140737488351232) (hk : 730 ≤ k) {kind block off : Int} {data : List Int} {many : Int} (h : Says l lsn kind block off data many) : atticlaw06_RecordBack.j1 k lsn p m l false = some true := by
  obtain ⟨k, rfl⟩ : ∃ j, k = j + 1 := ⟨k - 1, by omega⟩
  have h64 := (recB_says h.2.2.2 h.1 h.2.1).1
  rw [atticlaw06_RecordBack.j1, if_neg (by decide), take_yes (says_bytes h) (by omega) (by omega) h p, Option.bind_some, back_j2 k m hb hl (by omega)]
  by_cases hp : p = lsn
  · rw [if_pos hp]
  · rw [if_neg hp]
    by_cases hm : 0 ≤ p ∧ p ≤ 2305843009213693952
    · rw [if_pos hm, if_neg (show ¬ lsn = p from fun e => hp e.symm)]
      rfl
    · rw [if_neg hm]
      rfl
theorem back_j0 (k : Nat) (x0 x1 : Int) (m : List Int) (b : Bool) (a0 a1 a2 : Int) (l : List Int) (a4 : Int) (hl : Bytes l) (hm : Bytes m) (hml : m.length ≤ 140737488351232) (hk : 740 ≤ k) : atticlaw06_RecordBack.j0 k x0 x1 m b a0 a1 a2 l a4 = some true := by
  obtain ⟨k, rfl⟩ : ∃ j, k = j + 1 := ⟨k - 1, by omega⟩
  rw [atticlaw06_RecordBack.j0]
  by_cases hb : b = true
  · rw [if_pos hb, begun_f k (by omega), Option.bind_some]
  · rw [if_neg hb, bytes_f k x0 a0 a1 a2 l a4 hl (by omega), Option.bind_some]
    by_cases h1 : (bytesA x0 a0 a1 a2 l a4).2 = 0
    · rw [if_pos h1]
      have s := bytesA_zero hl h1
      generalize (bytesA x0 a0 a1 a2 l a4).1 = y at s
      have h64 := (recB_says s.2.2.2 s.1 s.2.1).1
      rw [take_yes (says_bytes s) (by omega) (by omega) s x0, if_pos s.1, if_pos rfl, Option.bind_some, lsn_yes (says_bytes s) (by omega) (by omega) s, Option.bind_some]
      show (if (0 : Int) = 0 then (record_Same.f a0 a1 a2 l a4 a0 a1 a2 l a4).bind _ else _) = _
      rw [if_pos rfl, same_f _ _ _ _ _ _ _ _ _ _ hl hl, Option.bind_some, decide_eq_true ⟨rfl, rfl, rfl, rfl, rfl⟩, if_pos rfl]
      show (if (0 : Int) = 0 then (if x0 = x0 then atticlaw06_RecordBack.j1 k x0 x1 m y ((y.length : Int) != 64) else _) else _) = _
      rw [if_pos rfl, if_pos rfl, show ((y.length : Int) != 64) = false by simp; omega]
      exact back_j1 k x0 x1 m y hm hml (by omega) s
    · rw [if_neg h1]
      exact back_j2 k m hm hml (by omega)
theorem RecordBack : atticlaw06_RecordBack.Pure := by
  intro x0 x1 a0 a1 a2 l a4 m _ _ _ _ _ _ _ wl _ _ hy wm
  have hl := bytes_wf wl
  have hm := bytes_wf wm
  refine ⟨800, ?_⟩
  unfold atticlaw06_RecordBack.f
  rw [begun_f 800 (by decide), Option.bind_some, if_pos rfl]
  by_cases h : (l.length : Int) > 5000
  · rw [if_pos h]
    exact back_j0 _ _ _ _ _ _ _ _ _ _ hl hm (by omega) (by decide)
  · rw [if_neg h]
    exact back_j0 _ _ _ _ _ _ _ _ _ _ hl hm (by omega) (by decide)
end Go.Proofs.Ytglgndeoldgjbaa.Pure
