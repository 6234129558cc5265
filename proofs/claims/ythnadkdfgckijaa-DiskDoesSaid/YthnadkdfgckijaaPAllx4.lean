-- Written for this claim by a program of this session's own: each Go function that the law uses, as a plain Lean function, with the proof that the machine's call comes to it.
import Derived.Test.YthnadkdfgckijaaPAllx0
namespace Go.Proofs.Ythnadkdfgckijaa.PAll
open Go.RowKit Go.Proofs.YthnadkdfgckijaaW.PrintWords Go.Proofs.YthnadkdfgckijaaW.PrintLast Go.Proofs.YthnadkdfgckijaaW.PrintMore
attribute [local go_sem] max2_int min2_int max_two min_two max_three min_three max_four min_four   -- for this text's walks alone
set_option linter.unusedVariables false
set_option linter.unusedSimpArgs false

attribute [local go_sem] setCell_drewN_
/-! ### slices_Concat_byte_byte: function 60 -/
-- BY HAND
theorem grow_nil8 (n : Int) (w : World) (h0 : 0 ≤ n) (hn : n < 140737488355328) :
    Calls Try.prog 88 #[.slice none 0 0, .int .i64 n] w fun e w' => ∃ v0_ : Value, e = .returned (v0_) ∧ Kd.R (Kd.int .u8) 5 w' w.heap.size (fun _ => True) v0_ [] ∧ Below w.heap.size w w' := by
  have HB := Aside0.mk (Below.refl w.heap.size w)
  by_cases hp : 0 < n
  · have hd : decide (0 < n) = true := decide_eq_true hp
    go_enter Try.func88, Try.ntmps88
    go_wp2_with ((with_reducible refine gate_builtin (b := .append) (xs := #[.tmp 20, .tmp 21]) rfl ?_); at_builtin; refine Kd.R_append_zeros (Kd.int .u8) (w0 := w) w.heap.size rfl (.tmp 20) (.tmp 21) 26 3 5 (.int .u8 0) 1 rfl Try.underlying26 Try.underlying3 info5 rfl (by decide) (by omega) (.slice none 0 0) ([] : List Int) (0 : Int) (n : Int) (fun _ => True) rfl rfl rfl ?aF ?aO (by omega) ?aB ?aS ?aL ?_)
    case aF => exact fun _ _ => trivial
    case aO => exact Kd.R_nil _ _ _ _ _
    case aB => exact Below.refl _ _
    case aS => exact Nat.le_refl _
    case aL => simp; omega
    intro v1 w1 ho hb hg hat
    obtain ⟨A, c, rfl, hl, _⟩ := Kd.R_reads ho
    have HO := Aside0.mk (Kd.R_take (m := 0) ho (by omega))
    have HB1 := Aside0.mk hb
    obtain ⟨i0, hi0, _, hsz, _⟩ := info_parts info5
    have hcut := cut_to (P := Try.prog) 26 5 .i64 Try.underlying26 hi0 A _ c 0 (by omega) (by omega) hl
    clear ho hb hg hat hl hi0 hsz
    go_wp2
    go_ret
    exact ⟨_, rfl, HO.out, HB1.out⟩
  · obtain rfl : n = 0 := by omega
    go_enter Try.func88, Try.ntmps88
    go_wp2
    go_ret
    exact ⟨_, rfl, Kd.R_nil _ _ _ _ _, Below.refl _ _⟩
def slices_Concat_byte_byte.f (l0 : List (List Int)) : Option (List Int) := if l0.flatten.length < 140737488355328 then some l0.flatten else none
theorem flat_take (l : List (List Int)) (k : Nat) (h : k < l.length) : (l.take (k + 1)).flatten = (l.take k).flatten ++ l[k] := by
  rw [List.take_succ_eq_append_getElem h, List.flatten_append]
  simp
theorem flat_le (l : List (List Int)) (k : Nat) : (l.take k).flatten.length ≤ l.flatten.length := by
  have h : l.flatten = (l.take k).flatten ++ (l.drop k).flatten := by rw [← List.flatten_append, List.take_append_drop]
  rw [h, List.length_append]
  omega
def flen (l : List (List Int)) (k : Nat) : Nat := (l.take k).flatten.length
theorem flen_zero (l : List (List Int)) : flen l 0 = 0 := rfl
theorem flen_all (l : List (List Int)) : flen l l.length = l.flatten.length := by unfold flen; rw [List.take_length]
theorem slices_Concat_byte_byte.calls (A0 : Option Addr) (c0 : Nat) (l0 : List (List Int)) (r : List Int) (w : World) (hr0 : Kd.C (Kd.slice 5 (Kd.int .u8)) w A0 l0.length l0) (hc0 : l0.length ≤ c0) (h : slices_Concat_byte_byte.f l0 = some r) :
    Calls Try.prog 60 #[.slice A0 l0.length c0] w fun e w' => ∃ v0_ : Value, e = .returned (v0_) ∧ Kd.R (Kd.int .u8) 5 w' w.heap.size (fun _ => True) v0_ r ∧ Below w.heap.size w w' := by
  have HB := Aside0.mk (Below.refl w.heap.size w)
  have HR0 := Aside0.mk hr0
  have HC0 := Aside0.mk hc0
  unfold slices_Concat_byte_byte.f at h
  by_cases hl : l0.flatten.length < 140737488355328
  · rw [if_pos hl] at h
    obtain rfl := Option.some.inj h
    have hm := hr0.2.1
    have HL := Aside0.mk hl
    clear hr0 hc0 h hl
    go_enter Try.func60, Try.ntmps60
    go_wp2
    go_loop [3, 5, 11] (fun s x i => ∃ k : Nat, k ≤ l0.length ∧ i = .int .i64 k ∧ s = .int .i64 (flen l0 k : Nat)) (fun _ _ i => l0.length - (intOf i).toNat)
    case atStart => exact ⟨0, Nat.zero_le _, rfl, rfl⟩
    case round =>
      obtain ⟨k, hk, rfl, rfl⟩ := hrel
      by_cases hlt : k < l0.length
      · obtain ⟨ad, cs, rfl, hcl, ⟨A', c', rfl, hle, hC⟩, hcell⟩ := ReadsRow.get_ HR0.out [] (k : Int) (by omega) (by omega)
        have hge : l0.getD ((k : Int)).toNat [] = l0[k] := by rw [List.getD_eq_getElem?_getD, show ((k : Int)).toNat = k by omega, List.getElem?_eq_getElem hlt]; rfl
        rw [hge] at hcell hle hC
        have hce : w.cell? (ad.add k) = some (.slice A' l0[k].length c') := by
          have := hcell 0 _ rfl
          simpa [Kd.slice] using this
        have hs0 := flat_take l0 k hlt
        have hs1 := flat_le l0 (k + 1)
        have hb1 : flen l0 k + l0[k].length < 140737488355328 := by
          have := HL.out
          unfold flen
          rw [hs0, List.length_append] at hs1
          omega
        have hs2 : flen l0 (k + 1) = flen l0 k + l0[k].length := by unfold flen; rw [hs0, List.length_append]
        have HS := Aside0.mk hs2
        clear hs0 hs1 hs2 hge hcell hcl hC hle
        go_wp2
        go_round
        case rel => exact ⟨k + 1, by omega, by go_num, by rw [HS.out]; go_num⟩
        case measure => simp [intOf]; omega
      · obtain rfl : k = l0.length := by omega
        have hL : flen l0 l0.length < 140737488355328 := by rw [flen_all]; exact HL.out
        go_wp2_with (go_at_call 88; refine (grow_nil8 _ _ (by omega) (by omega)).mono ?_; rintro e w1 ⟨v1, rfl, ho, hb⟩; have HO := Aside0.mk ho; have HB1 := Aside0.mk hb; clear ho hb)
        go_loopw [6, 8, 27] (fun v x i wr => ∃ k : Nat, k ≤ l0.length ∧ i = .int .i64 k ∧ Aside0 (Kd.R (Kd.int .u8) 5 wr w.heap.size (fun _ => True) v (l0.take k).flatten) ∧ Aside0 (Below w.heap.size w wr)) (fun _ _ i _ => l0.length - (intOf i).toNat)
        case atStart => exact ⟨0, Nat.zero_le _, rfl, HO, HB1⟩
        case round =>
          obtain ⟨k, hk, rfl, HO2, HB2⟩ := hrel
          by_cases hlt2 : k < l0.length
          · obtain ⟨ad, cs, rfl, hcl, ⟨A', c', rfl, hle, hC⟩, hcell⟩ := ReadsRow.get_ HR0.out [] (k : Int) (by omega) (by omega)
            have hge : l0.getD ((k : Int)).toNat [] = l0[k] := by rw [List.getD_eq_getElem?_getD, show ((k : Int)).toNat = k by omega, List.getElem?_eq_getElem hlt2]; rfl
            rw [hge] at hcell hle hC
            have hce0 : w.cell? (ad.add k) = some (.slice A' l0[k].length c') := by
              have := hcell 0 _ rfl
              simpa [Kd.slice] using this
            have hce := (HB2.out.cell (World.block_lt_of_cell? w _ hce0)).trans hce0
            have hs0 := flat_take l0 k hlt2
            have hs1 := flat_le l0 (k + 1)
            rw [hs0, List.length_append] at hs1
            have HS := Aside0.mk hs0
            have HS1 := Aside0.mk hs1
            have HC2 := Aside0.mk (Kd.C_below hC HB2.out)
            clear hs0 hs1 hge hcell hcl hC hle hce0
            go_wp2_with ((with_reducible refine gate_builtin (b := .append) (xs := #[.tmp 31, .tmp 32]) rfl ?_); at_builtin; refine Kd.R_append_rows (Kd.int .u8) (w0 := w) w.heap.size rfl (.tmp 31) (.tmp 32) 26 5 (.int .u8 0) 1 rfl Try.underlying26 info5 rfl (by decide) (by omega) _ (l0.take k).flatten l0[k] _ _ _ (fun _ => True) (fun _ => False) rfl rfl ?aO ?aR (fun _ _ h => h) (fun _ h => h.elim) ?aF ?aB ?aS ?aL ?_)
            case aO => exact HO2.out
            case aR => exact HC2.out
            case aF => exact fun _ _ => trivial
            case aB => exact HB2.out
            case aS => exact HB2.out.size
            case aL => have := HS1.out; have := HL.out; omega
            intro v2 w2 ho hb hg hat
            rw [← HS.out] at ho
            have HO3 := Aside0.mk ho
            have HB3 := Aside0.mk hb
            clear ho hb hg hat
            go_wp2
            go_roundw
            case rel => exact ⟨k + 1, by omega, by go_num, HO3, HB3⟩
            case measure => simp [intOf]; omega
          · obtain rfl : k = l0.length := by omega
            go_wp2
            go_ret
            refine ⟨_, rfl, ?_, HB2.out⟩
            have := HO2.out
            rwa [List.take_length] at this
  · rw [if_neg hl] at h
    exact absurd h (by simp)


end Go.Proofs.Ythnadkdfgckijaa.PAll
