/- Heads, bytes and parses are the document's -/
import Derived.Test.YtckdnkiacnonkaaPAllx9
import Derived.Test.YtckdnkiacnonkaaShapes
import Derived.Test.YtckdnkiacnonkaaNum
import Derived.Test.YtckdnkiacnonkaaGet
import Derived.Test.YtckdnkiacnonkaaHeads
import Derived.Test.YtckdnkiacnonkaaMakes
import Derived.Lib.Bytes
import Derived.Laws.BitsAllLaws
import Derived.Laws.Bits64
namespace Go.Proofs.Ytckdnkiacnonkaa.Pure
open Go.RowKit Go.Proofs.Ytckdnkiacnonkaa.PAll Go.Proofs.YtckdnkiacnonkaaW.PrintWords Go.Proofs.YtckdnkiacnonkaaW.PrintLast Go.Proofs.YtckdnkiacnonkaaW.PrintMore

theorem ofNat_inj8 {x y : Int} (hx : 0 ≤ x ∧ x < 256) (hy : 0 ≤ y ∧ y < 256) (h : UInt8.ofNat x.toNat = UInt8.ofNat y.toNat) : x = y := by
  have h2 := congrArg UInt8.toNat h
  simp only [UInt8.toNat_ofNat'] at h2
  omega
theorem map8_inj : ∀ (x y : List Int), Bytes x → Bytes y → (x.map fun n => UInt8.ofNat n.toNat) = (y.map fun n => UInt8.ofNat n.toNat) → x = y
  | [], [], _, _, _ => rfl
  | [], _ :: _, _, _, h => by simp at h
  | _ :: _, [], _, _, h => by simp at h
  | a :: x, b :: y, hx, hy, h => by
    simp only [List.map_cons, List.cons.injEq] at h
    rw [ofNat_inj8 (hx a (by simp)) (hy b (by simp)) h.1, map8_inj x y (fun z hz => hx z (by simp [hz])) (fun z hz => hy z (by simp [hz])) h.2]
theorem equal_f (x y : List Int) (hx : Bytes x) (hy : Bytes y) : bytes_Equal.f x y = some (decide (x = y)) := by
  unfold bytes_Equal.f
  congr 1
  by_cases h : x = y
  · subst h
    simp
  · rw [decide_eq_false h, Go.Lib.strOfNums_toList, Go.Lib.strOfNums_toList, beq_eq_false_iff_ne]
    intro e
    exact h (map8_inj x y hx hy e)
theorem same_l0 (x y : List Int) (hl : x.length = y.length) (hb : x.length ≤ 1000) (d : Nat) : ∀ (k i : Nat), i + d = x.length → x.take i = y.take i → d < k → atticref01_Same.l0 k x y (i : Int) = some (decide (x = y)) := by
  induction d with
  | zero =>
    intro k i hi ht hk
    obtain ⟨k, rfl⟩ : ∃ m, k = m + 1 := ⟨k - 1, by omega⟩
    rw [atticref01_Same.l0, if_neg (by omega)]
    rw [List.take_of_length_le (by omega), List.take_of_length_le (by omega)] at ht
    rw [decide_eq_true ht]
  | succ d ih =>
    intro k i hi ht hk
    obtain ⟨k, rfl⟩ : ∃ m, k = m + 1 := ⟨k - 1, by omega⟩
    have h1 : i < x.length := by omega
    have h2 : i < y.length := by omega
    have w : wrap64 ((i : Int) + 1) = ((i + 1 : Nat) : Int) := by clear ih ht; rw [w64id (by omega) (by omega)]; simp
    rw [atticref01_Same.l0, if_pos (by omega), if_pos (by omega), if_pos (by omega), w, rd_nat h1, rd_nat h2]
    by_cases he : x[i] = y[i]
    · rw [if_pos he]
      refine ih k (i + 1) (by omega) ?_ (by omega)
      rw [List.take_succ_eq_append_getElem h1, List.take_succ_eq_append_getElem h2, ht, he]
    · rw [if_neg he, decide_eq_false]
      intro e
      subst e
      exact he rfl
theorem same_f (k : Nat) (x y : List Int) (hl : x.length = y.length) (hb : x.length ≤ 1000) (hk : 1002 ≤ k) : atticref01_Same.f k x y = some (decide (x = y)) := by
  unfold atticref01_Same.f
  rw [if_pos (by omega)]
  exact same_l0 x y hl hb x.length k 0 (by omega) rfl (by omega)
theorem numL_bytes (n v : Nat) : Bytes (numL n v) := by
  intro x hx
  unfold numL at hx
  obtain ⟨i, _, rfl⟩ := List.mem_map.1 hx
  have : v / 256 ^ i % 256 < 256 := Nat.mod_lt _ (by decide)
  generalize v / 256 ^ i % 256 = z at this
  omega
theorem hdL_bytes (a b c g : Int) : Bytes (hdL a b c g) := by
  intro x hx
  unfold hdL at hx
  simp only [List.mem_append] at hx
  rcases hx with ((hx | hx) | hx) | hx
  · simp only [List.mem_cons, List.not_mem_nil, or_false] at hx
    rcases hx with rfl | rfl <;> omega
  · exact numL_bytes _ _ x hx
  · simp at hx
    omega
  · exact numL_bytes _ _ x hx
theorem parse_both (k : Nat) (l : List Int) (hb : Bytes l) (hl : l.length ≤ 140737488351232) (hk : 1200 ≤ k) : ∃ r, object_Parse.f k l = some r ∧ atticref13_Parse.f k l = some r := by
  unfold object_Parse.f atticref13_Parse.f
  by_cases h16 : (l.length : Int) < 16
  · rw [if_pos h16, if_pos h16]
    exact ⟨_, rfl, rfl⟩
  · have g2 := get_f k l 2 2 hb (by omega) (by omega)
    have g8 := get_f k l 8 8 hb (by omega) (by omega)
    rw [if_neg h16, if_neg h16, g2.1, g2.2, g8.1, g8.2]
    simp only [Option.bind_some]
    rw [if_pos (by omega : 0 < (l.length : Int)), if_pos (by omega : 1 < (l.length : Int)), if_pos (by omega : 0 < (l.length : Int)), if_pos (by omega : 1 < (l.length : Int))]
    generalize wrap64 (rd l 0) = a
    generalize wrap64 (rd l 1) = b
    generalize wrap64 (getA l 2 2).1 = c
    generalize (getA l 8 8).1 = v
    clear g2 g8
    rw [head_w k a b c _ (by omega), head_r k a b c _ (by omega)]
    simp only [Option.bind_some]
    obtain ⟨m, rfl⟩ : ∃ m, k = m + 20 := ⟨k - 20, by omega⟩
    rw [of_r]
    show ∃ r, _ ∧ (if (HD a b c (wrap64 v)).2 = 0 then (if (OF a b c).2 = 0 then _ else _) else _) = _
    by_cases h : (HD a b c (wrap64 v)).2 = 0
    · obtain ⟨h0, h1⟩ := HD_OF h
      obtain ⟨n, s, hn, e, hs, hsl, s1, s2⟩ := SL_of h0
      have ht : (l.take 16).length = 16 := by rw [List.length_take]; omega
      rw [if_pos h, if_pos h, if_pos h0, if_pos (by omega : 16 ≤ (l.length : Int)), if_pos (by omega : 16 ≤ (l.length : Int)), h1, equal_f _ _ (hdL_bytes _ _ _ _) (fun x hx => hb x (List.mem_of_mem_take hx)), same_f _ _ _ (by rw [hdL_length, ht]) (by rw [hdL_length]; decide) (by omega)]
      simp only [Option.bind_some]
      rw [show m + 20 = (m + 19) + 1 from rfl, object_Parse.j0]
      by_cases hq : hdL a b c (wrap64 v) = l.take 16
      · rw [decide_eq_true hq, if_neg (by decide), of_w]
        show ∃ r, ((class_Slot.f (OF a b c).1).bind _ = _) ∧ ((atticref11_Slot.f _ (OF a b c).1).bind _ = _)
        rw [e, class_Of.slotf n hn, show m + 19 + 1 = (m + 12) + 8 from rfl, slot_r (m + 12) n hn]
        simp only [Option.bind_some]
        by_cases hz : (l.length : Int) = class_Of.slot n
        · rw [if_pos hz]
          exact ⟨_, rfl, rfl⟩
        · rw [if_neg hz]
          exact ⟨_, rfl, rfl⟩
      · rw [decide_eq_false hq, if_pos (by decide), if_neg (by decide)]
        exact ⟨_, rfl, rfl⟩
    · rw [if_neg h, if_neg h, show m + 20 = (m + 19) + 1 from rfl, object_Parse.j0, if_pos rfl]
      exact ⟨_, rfl, rfl⟩
theorem ObjectMakes : atticlaw13_ObjectMakes.Pure := by
  intro a b c g l _ _ _ _ _ hl wb
  have hb := bytes_wf wb
  obtain ⟨r, p1, p2⟩ := parse_both 1300 l hb (by omega) (by decide)
  have hlive : atticlaw13_live.f 1300 = some true := by
    unfold atticlaw13_live.f
    rw [head_w 1300 1 2 5 9 (by decide)]
    decide +kernel
  refine ⟨1300, ?_⟩
  unfold atticlaw13_ObjectMakes.f
  rw [head_w 1300 a b c g (by decide), head_r 1300 a b c g (by decide), make_w 1300 a b c g (by decide), make_r 1300 a b c g (by decide), p1, p2, hlive]
  simp only [Option.bind_some, if_true, equal_self]
  simp
end Go.Proofs.Ytckdnkiacnonkaa.Pure
