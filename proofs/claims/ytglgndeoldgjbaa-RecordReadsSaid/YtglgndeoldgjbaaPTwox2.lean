-- Written for this claim by a program of this session's own: each Go function that the law uses, as a plain Lean function, with the proof that the machine's call comes to it.
import Derived.Test.YtglgndeoldgjbaaPTwox0
import Derived.Test.YtglgndeoldgjbaaPTwox1
namespace Go.Proofs.Ytglgndeoldgjbaa.PTwo
open Go.RowKit Go.Proofs.YtglgndeoldgjbaaW.PrintWords Go.Proofs.YtglgndeoldgjbaaW.PrintLast Go.Proofs.YtglgndeoldgjbaaW.PrintMore
attribute [local go_sem] max2_int min2_int max_two min_two max_three min_three max_four min_four   -- for this text's walks alone
set_option linter.unusedVariables false
set_option linter.unusedSimpArgs false

attribute [local go_sem] setCell_drewN_
/-! ### record_Bytes: function 8 -/
def record_Bytes.f (k : Nat) (a0 : Int) (a1_0 : Int) (a1_1 : Int) (a1_2 : Int) (l1_3 : List Int) (a1_4 : Int) : Option (List Int × Int) := (record_may.f a0).bind fun t110 => (if t110 = true then ((record_Check.f a1_0 a1_1 a1_2 l1_3 a1_4).bind fun t111 => (if t111 = 0 then (if 64 ≤ 281474976710656 then ((some (List.replicate 64 0 : List Int)).bind fun y112 => (if 0 < (y112.length : Int) then (if 1 < (y112.length : Int) then ((some ((y112.set (0 : Int).toNat ((a1_0) % 256)).set (1 : Int).toNat (((l1_3.length : Int)) % 256) : List Int)).bind fun y116 => (if 2 ≤ (y112.length : Int) then ((word_Num.f k 8 (IntKind.u64.wrap (a0))).bind fun t121 => ((some (y116.take 2 ++ t121.take (y116.length - 2) ++ y116.drop (2 + t121.length) : List Int)).bind fun y124 => (if 10 ≤ (y112.length : Int) then ((word_Num.f k 4 (IntKind.u64.wrap (mx a1_1 a1_4))).bind fun t131 => (if 14 < (y112.length : Int) then ((some ((y124.take 10 ++ t131.take (y124.length - 10) ++ y124.drop (10 + t131.length)).set (14 : Int).toNat ((a1_2) % 256) : List Int)).bind fun y137 => (if 16 ≤ (y112.length : Int) then ((some (y137.take 16 ++ l1_3.take (y137.length - 16) ++ y137.drop (16 + l1_3.length) : List Int)).bind fun y142 => (if 60 ≤ (y112.length : Int) then ((word_Sum.f k (y142.take 60)).bind fun t153 => ((word_Num.f k 4 (IntKind.u64.wrap (t153))).bind fun t154 => (some ((y142.take 60 ++ t154.take (y142.length - 60) ++ y142.drop (60 + t154.length)), 0)))) else (none))) else (none))) else (none))) else (none)))) else (none))) else (none)) else (none))) else (none)) else (some (([] : List Int), t111)))) else (some (([] : List Int), 1)))
theorem record_Bytes.mono : ∀ a0 a1 a2 a3 a4 a5 k, LeO (record_Bytes.f k a0 a1 a2 a3 a4 a5) (record_Bytes.f (k + 1) a0 a1 a2 a3 a4 a5) := by
  intro a0 a1 a2 a3 a4 a5 k
  unfold record_Bytes.f
  repeat' first
      | (with_reducible exact word_Num.mono _ _ _)
      | (with_reducible exact word_Sum.mono _ _)
      | (with_reducible exact LeO.refl _)
      | (with_reducible exact LeO.none _)
      | (with_reducible refine LeO.ite ?_ ?_)
      | (with_reducible refine LeO.bind ?_ (fun _ => ?_))
      | exact word_Num.mono _ _ _
      | exact word_Sum.mono _ _
      | exact LeO.none _
      | refine LeO.ite ?_ ?_
      | refine LeO.bind ?_ (fun _ => ?_)
def record_Bytes.T7 : Bool × List (List Nat × List Nat) := (true, [([], []), ([], []), ([], []), ([2], [2]), ([3], [3]), ([], []), ([5], [5]), ([6], [6]), ([7], [7]), ([0, 0, 2, 3, 4], [0]), ([9, 4, 0, 2, 3, 4], [4, 9]), ([1, 0, 1, 2, 3, 4, 5, 6, 7, 8, 9, 10], [1]), ([11, 8, 10, 0, 1, 2, 3, 4, 5, 6, 7, 8, 9, 10], [8, 11])])
def record_Bytes.B7 : List Nat := [0, 0, 0, 4, 12, 0, 32, 96, 224, 29, 541, 2047, 4095]
theorem record_Bytes.tab7 : rtab .any (opsOf Try.f8 7) = record_Bytes.T7 := by kernel_rfl
theorem record_Bytes.bits7 : waitsOk record_Bytes.T7.2 record_Bytes.B7 = true := by kernel_rfl
def record_Bytes.T9 : Bool × List (List Nat × List Nat) := (true, [([], []), ([0], [0]), ([], []), ([2], [2]), ([], []), ([4], [4]), ([3, 5], [3, 5]), ([6], [6]), ([7], [7]), ([1, 8, 8], [1, 8])])
def record_Bytes.B9 : List Nat := [0, 1, 0, 4, 0, 16, 60, 124, 252, 511]
theorem record_Bytes.tab9 : rtab .any (opsOf Try.f8 9) = record_Bytes.T9 := by kernel_rfl
theorem record_Bytes.bits9 : waitsOk record_Bytes.T9.2 record_Bytes.B9 = true := by kernel_rfl
def record_Bytes.T12 : Bool × List (List Nat × List Nat) := (true, [([], []), ([0], [0]), ([], []), ([2], [2]), ([3], [3]), ([4], [4]), ([5, 4], [5]), ([1, 6, 6], [1, 6])])
def record_Bytes.B12 : List Nat := [0, 1, 0, 4, 12, 28, 60, 127]
theorem record_Bytes.tab12 : rtab .any (opsOf Try.f8 12) = record_Bytes.T12 := by kernel_rfl
theorem record_Bytes.bits12 : waitsOk record_Bytes.T12.2 record_Bytes.B12 = true := by kernel_rfl
set_option maxHeartbeats 8000000 in
set_option maxRecDepth 100000 in
theorem record_Bytes.calls (k : Nat) (a0 : Int) (a1_0 : Int) (a1_1 : Int) (a1_2 : Int) (A1_3 : Option Addr) (c1_3 : Nat) (l1_3 : List Int) (a1_4 : Int) (r1 : List Int) (r2 : Int) (w : World) (hr1_3 : Kd.C (Kd.int .u8) w A1_3 l1_3.length l1_3) (hc1_3 : l1_3.length ≤ c1_3) (h : record_Bytes.f k a0 a1_0 a1_1 a1_2 l1_3 a1_4 = some (r1, r2)) :
    Calls Try.prog 8 #[.int .i64 a0, .agg #[.int .i64 a1_0, .int .i64 a1_1, .int .i64 a1_2, .slice A1_3 l1_3.length c1_3, .int .i64 a1_4]] w fun e w' => ∃ v0_ : Value, e = .returned (.tuple #[v0_, .int .i64 r2]) ∧ Kd.R (Kd.int .u8) 5 w' w.heap.size (fun _ => True) v0_ r1 ∧ Below w.heap.size w w' := by
  have hu24 := Try.underlying24
  have HR1_3 := Aside0.mk hr1_3
  have HC1_3 := Aside0.mk hc1_3
  clear hr1_3 hc1_3
  have HB := Aside0.mk (Below.refl w.heap.size w)
  have H : ((record_may.f a0).bind fun t110 => (if t110 = true then ((record_Check.f a1_0 a1_1 a1_2 l1_3 a1_4).bind fun t111 => (if t111 = 0 then (if 64 ≤ 281474976710656 then ((some (List.replicate 64 0 : List Int)).bind fun y112 => (if 0 < (y112.length : Int) then (if 1 < (y112.length : Int) then ((some ((y112.set (0 : Int).toNat ((a1_0) % 256)).set (1 : Int).toNat (((l1_3.length : Int)) % 256) : List Int)).bind fun y116 => (if 2 ≤ (y112.length : Int) then ((word_Num.f k 8 (IntKind.u64.wrap (a0))).bind fun t121 => ((some (y116.take 2 ++ t121.take (y116.length - 2) ++ y116.drop (2 + t121.length) : List Int)).bind fun y124 => (if 10 ≤ (y112.length : Int) then ((word_Num.f k 4 (IntKind.u64.wrap (mx a1_1 a1_4))).bind fun t131 => (if 14 < (y112.length : Int) then ((some ((y124.take 10 ++ t131.take (y124.length - 10) ++ y124.drop (10 + t131.length)).set (14 : Int).toNat ((a1_2) % 256) : List Int)).bind fun y137 => (if 16 ≤ (y112.length : Int) then ((some (y137.take 16 ++ l1_3.take (y137.length - 16) ++ y137.drop (16 + l1_3.length) : List Int)).bind fun y142 => (if 60 ≤ (y112.length : Int) then ((word_Sum.f k (y142.take 60)).bind fun t153 => ((word_Num.f k 4 (IntKind.u64.wrap (t153))).bind fun t154 => (some ((y142.take 60 ++ t154.take (y142.length - 60) ++ y142.drop (60 + t154.length)), 0)))) else (none))) else (none))) else (none))) else (none)))) else (none))) else (none)) else (none))) else (none)) else (some (([] : List Int), t111)))) else (some (([] : List Int), 1)))) = some (r1, r2) := h
  clear h
  replace H := Option.bind_eq_some_iff.mp H
  obtain ⟨t110, A30, H⟩ := H
  replace H : (if t110 = true then ((record_Check.f a1_0 a1_1 a1_2 l1_3 a1_4).bind fun t111 => (if t111 = 0 then (if 64 ≤ 281474976710656 then ((some (List.replicate 64 0 : List Int)).bind fun y112 => (if 0 < (y112.length : Int) then (if 1 < (y112.length : Int) then ((some ((y112.set (0 : Int).toNat ((a1_0) % 256)).set (1 : Int).toNat (((l1_3.length : Int)) % 256) : List Int)).bind fun y116 => (if 2 ≤ (y112.length : Int) then ((word_Num.f k 8 (IntKind.u64.wrap (a0))).bind fun t121 => ((some (y116.take 2 ++ t121.take (y116.length - 2) ++ y116.drop (2 + t121.length) : List Int)).bind fun y124 => (if 10 ≤ (y112.length : Int) then ((word_Num.f k 4 (IntKind.u64.wrap (mx a1_1 a1_4))).bind fun t131 => (if 14 < (y112.length : Int) then ((some ((y124.take 10 ++ t131.take (y124.length - 10) ++ y124.drop (10 + t131.length)).set (14 : Int).toNat ((a1_2) % 256) : List Int)).bind fun y137 => (if 16 ≤ (y112.length : Int) then ((some (y137.take 16 ++ l1_3.take (y137.length - 16) ++ y137.drop (16 + l1_3.length) : List Int)).bind fun y142 => (if 60 ≤ (y112.length : Int) then ((word_Sum.f k (y142.take 60)).bind fun t153 => ((word_Num.f k 4 (IntKind.u64.wrap (t153))).bind fun t154 => (some ((y142.take 60 ++ t154.take (y142.length - 60) ++ y142.drop (60 + t154.length)), 0)))) else (none))) else (none))) else (none))) else (none)))) else (none))) else (none)) else (none))) else (none)) else (some (([] : List Int), t111)))) else (some (([] : List Int), 1))) = some (r1, r2) := H
  have A3 := Aside0.mk A30
  clear A30
  by_cases c4 : t110 = true
  · subst c4
    have H1 : ((record_Check.f a1_0 a1_1 a1_2 l1_3 a1_4).bind fun t111 => (if t111 = 0 then (if 64 ≤ 281474976710656 then ((some (List.replicate 64 0 : List Int)).bind fun y112 => (if 0 < (y112.length : Int) then (if 1 < (y112.length : Int) then ((some ((y112.set (0 : Int).toNat ((a1_0) % 256)).set (1 : Int).toNat (((l1_3.length : Int)) % 256) : List Int)).bind fun y116 => (if 2 ≤ (y112.length : Int) then ((word_Num.f k 8 (IntKind.u64.wrap (a0))).bind fun t121 => ((some (y116.take 2 ++ t121.take (y116.length - 2) ++ y116.drop (2 + t121.length) : List Int)).bind fun y124 => (if 10 ≤ (y112.length : Int) then ((word_Num.f k 4 (IntKind.u64.wrap (mx a1_1 a1_4))).bind fun t131 => (if 14 < (y112.length : Int) then ((some ((y124.take 10 ++ t131.take (y124.length - 10) ++ y124.drop (10 + t131.length)).set (14 : Int).toNat ((a1_2) % 256) : List Int)).bind fun y137 => (if 16 ≤ (y112.length : Int) then ((some (y137.take 16 ++ l1_3.take (y137.length - 16) ++ y137.drop (16 + l1_3.length) : List Int)).bind fun y142 => (if 60 ≤ (y112.length : Int) then ((word_Sum.f k (y142.take 60)).bind fun t153 => ((word_Num.f k 4 (IntKind.u64.wrap (t153))).bind fun t154 => (some ((y142.take 60 ++ t154.take (y142.length - 60) ++ y142.drop (60 + t154.length)), 0)))) else (none))) else (none))) else (none))) else (none)))) else (none))) else (none)) else (none))) else (none)) else (some (([] : List Int), t111)))) = some (r1, r2) := by rw [if_pos rfl] at H; exact H
    clear H
    have H := H1
    clear H1
    replace H := Option.bind_eq_some_iff.mp H
    obtain ⟨t111, A50, H⟩ := H
    replace H : (if t111 = 0 then (if 64 ≤ 281474976710656 then ((some (List.replicate 64 0 : List Int)).bind fun y112 => (if 0 < (y112.length : Int) then (if 1 < (y112.length : Int) then ((some ((y112.set (0 : Int).toNat ((a1_0) % 256)).set (1 : Int).toNat (((l1_3.length : Int)) % 256) : List Int)).bind fun y116 => (if 2 ≤ (y112.length : Int) then ((word_Num.f k 8 (IntKind.u64.wrap (a0))).bind fun t121 => ((some (y116.take 2 ++ t121.take (y116.length - 2) ++ y116.drop (2 + t121.length) : List Int)).bind fun y124 => (if 10 ≤ (y112.length : Int) then ((word_Num.f k 4 (IntKind.u64.wrap (mx a1_1 a1_4))).bind fun t131 => (if 14 < (y112.length : Int) then ((some ((y124.take 10 ++ t131.take (y124.length - 10) ++ y124.drop (10 + t131.length)).set (14 : Int).toNat ((a1_2) % 256) : List Int)).bind fun y137 => (if 16 ≤ (y112.length : Int) then ((some (y137.take 16 ++ l1_3.take (y137.length - 16) ++ y137.drop (16 + l1_3.length) : List Int)).bind fun y142 => (if 60 ≤ (y112.length : Int) then ((word_Sum.f k (y142.take 60)).bind fun t153 => ((word_Num.f k 4 (IntKind.u64.wrap (t153))).bind fun t154 => (some ((y142.take 60 ++ t154.take (y142.length - 60) ++ y142.drop (60 + t154.length)), 0)))) else (none))) else (none))) else (none))) else (none)))) else (none))) else (none)) else (none))) else (none)) else (some (([] : List Int), t111))) = some (r1, r2) := H
    have A5 := Aside0.mk A50
    clear A50
    by_cases c6 : t111 = 0
    · rw [if_pos c6] at H
      have c6b0 : (t111 == 0) = true := beq_iff_eq.mpr c6
      have c6b1 : (t111 != 0) = false := bne_eq_false_iff_eq.mpr c6
      clear c6
      by_cases c7 : 64 ≤ 281474976710656
      · rw [if_pos c7] at H
        have c7b0 := eq_true c7
        have c7b1 : decide (64 ≤ 281474976710656) = true := decide_eq_true c7
        clear c7
        obtain ⟨y112, hy112⟩ : ∃ y_ : List Int, y_ = (List.replicate 64 0) := ⟨_, rfl⟩
        replace H : (if 0 < (y112.length : Int) then (if 1 < (y112.length : Int) then ((some ((y112.set (0 : Int).toNat ((a1_0) % 256)).set (1 : Int).toNat (((l1_3.length : Int)) % 256) : List Int)).bind fun y116 => (if 2 ≤ (y112.length : Int) then ((word_Num.f k 8 (IntKind.u64.wrap (a0))).bind fun t121 => ((some (y116.take 2 ++ t121.take (y116.length - 2) ++ y116.drop (2 + t121.length) : List Int)).bind fun y124 => (if 10 ≤ (y112.length : Int) then ((word_Num.f k 4 (IntKind.u64.wrap (mx a1_1 a1_4))).bind fun t131 => (if 14 < (y112.length : Int) then ((some ((y124.take 10 ++ t131.take (y124.length - 10) ++ y124.drop (10 + t131.length)).set (14 : Int).toNat ((a1_2) % 256) : List Int)).bind fun y137 => (if 16 ≤ (y112.length : Int) then ((some (y137.take 16 ++ l1_3.take (y137.length - 16) ++ y137.drop (16 + l1_3.length) : List Int)).bind fun y142 => (if 60 ≤ (y112.length : Int) then ((word_Sum.f k (y142.take 60)).bind fun t153 => ((word_Num.f k 4 (IntKind.u64.wrap (t153))).bind fun t154 => (some ((y142.take 60 ++ t154.take (y142.length - 60) ++ y142.drop (60 + t154.length)), 0)))) else (none))) else (none))) else (none))) else (none)))) else (none))) else (none)) else (none)) = some (r1, r2) := by first | (rw [hy112]; with_reducible exact H) | (have H2_ := (Option.bind_some _ _).symm.trans H; rw [hy112]; with_reducible exact H2_) | (have H2_ := (Option.bind_some _ _).symm.trans H; with_reducible exact H2_) | with_reducible exact H | (rw [hy112]; exact H) | exact H
        have Ny112 := Aside0.mk hy112
        clear hy112
        by_cases c8 : 0 < (y112.length : Int)
        · rw [if_pos c8] at H
          have c8b0 : decide (0 < (y112.length : Int)) = true := decide_eq_true c8
          have c8b1 : decide (0 < y112.length) = true := decide_eq_true (by omega)
          clear c8
          obtain ⟨y115, hy115⟩ : ∃ y_ : List Int, y_ = (y112.set (0 : Int).toNat ((a1_0) % 256)) := ⟨_, rfl⟩
          replace H : (if 1 < (y112.length : Int) then ((some (y115.set (1 : Int).toNat (((l1_3.length : Int)) % 256) : List Int)).bind fun y116 => (if 2 ≤ (y112.length : Int) then ((word_Num.f k 8 (IntKind.u64.wrap (a0))).bind fun t121 => ((some (y116.take 2 ++ t121.take (y116.length - 2) ++ y116.drop (2 + t121.length) : List Int)).bind fun y124 => (if 10 ≤ (y112.length : Int) then ((word_Num.f k 4 (IntKind.u64.wrap (mx a1_1 a1_4))).bind fun t131 => (if 14 < (y112.length : Int) then ((some ((y124.take 10 ++ t131.take (y124.length - 10) ++ y124.drop (10 + t131.length)).set (14 : Int).toNat ((a1_2) % 256) : List Int)).bind fun y137 => (if 16 ≤ (y112.length : Int) then ((some (y137.take 16 ++ l1_3.take (y137.length - 16) ++ y137.drop (16 + l1_3.length) : List Int)).bind fun y142 => (if 60 ≤ (y112.length : Int) then ((word_Sum.f k (y142.take 60)).bind fun t153 => ((word_Num.f k 4 (IntKind.u64.wrap (t153))).bind fun t154 => (some ((y142.take 60 ++ t154.take (y142.length - 60) ++ y142.drop (60 + t154.length)), 0)))) else (none))) else (none))) else (none))) else (none)))) else (none))) else (none)) = some (r1, r2) := by first | (rw [hy115]; with_reducible exact H) | (have H2_ := (Option.bind_some _ _).symm.trans H; rw [hy115]; with_reducible exact H2_) | (have H2_ := (Option.bind_some _ _).symm.trans H; with_reducible exact H2_) | with_reducible exact H | (rw [hy115]; exact H) | exact H
          have Ny115 := Aside0.mk hy115
          clear hy115
          by_cases c10 : 1 < (y112.length : Int)
          · rw [if_pos c10] at H
            have c10b0 : decide (1 < (y112.length : Int)) = true := decide_eq_true c10
            have c10b1 : decide (1 < y112.length) = true := decide_eq_true (by omega)
            clear c10
            obtain ⟨y116, hy116⟩ : ∃ y_ : List Int, y_ = (y115.set (1 : Int).toNat (((l1_3.length : Int)) % 256)) := ⟨_, rfl⟩
            replace H : (if 2 ≤ (y112.length : Int) then ((word_Num.f k 8 (IntKind.u64.wrap (a0))).bind fun t121 => ((some (y116.take 2 ++ t121.take (y116.length - 2) ++ y116.drop (2 + t121.length) : List Int)).bind fun y124 => (if 10 ≤ (y112.length : Int) then ((word_Num.f k 4 (IntKind.u64.wrap (mx a1_1 a1_4))).bind fun t131 => (if 14 < (y112.length : Int) then ((some ((y124.take 10 ++ t131.take (y124.length - 10) ++ y124.drop (10 + t131.length)).set (14 : Int).toNat ((a1_2) % 256) : List Int)).bind fun y137 => (if 16 ≤ (y112.length : Int) then ((some (y137.take 16 ++ l1_3.take (y137.length - 16) ++ y137.drop (16 + l1_3.length) : List Int)).bind fun y142 => (if 60 ≤ (y112.length : Int) then ((word_Sum.f k (y142.take 60)).bind fun t153 => ((word_Num.f k 4 (IntKind.u64.wrap (t153))).bind fun t154 => (some ((y142.take 60 ++ t154.take (y142.length - 60) ++ y142.drop (60 + t154.length)), 0)))) else (none))) else (none))) else (none))) else (none)))) else (none)) = some (r1, r2) := by first | (rw [hy116]; with_reducible exact H) | (have H2_ := (Option.bind_some _ _).symm.trans H; rw [hy116]; with_reducible exact H2_) | (have H2_ := (Option.bind_some _ _).symm.trans H; with_reducible exact H2_) | with_reducible exact H | (rw [hy116]; exact H) | exact H
            have Ny116 := Aside0.mk hy116
            clear hy116
            by_cases c12 : 2 ≤ (y112.length : Int)
            · rw [if_pos c12] at H
              have c12b0 := eq_true c12
              have c12b1 : decide (2 ≤ (y112.length : Int)) = true := decide_eq_true c12
              clear c12
              obtain ⟨y117, hy117⟩ : ∃ y_ : List Int, y_ = (y116.drop 2) := ⟨_, rfl⟩
              replace H : ((word_Num.f k 8 (IntKind.u64.wrap (a0))).bind fun t121 => ((some (y116.take 2 ++ t121.take (y116.length - 2) ++ y116.drop (2 + t121.length) : List Int)).bind fun y124 => (if 10 ≤ (y112.length : Int) then ((word_Num.f k 4 (IntKind.u64.wrap (mx a1_1 a1_4))).bind fun t131 => (if 14 < (y112.length : Int) then ((some ((y124.take 10 ++ t131.take (y124.length - 10) ++ y124.drop (10 + t131.length)).set (14 : Int).toNat ((a1_2) % 256) : List Int)).bind fun y137 => (if 16 ≤ (y112.length : Int) then ((some (y137.take 16 ++ l1_3.take (y137.length - 16) ++ y137.drop (16 + l1_3.length) : List Int)).bind fun y142 => (if 60 ≤ (y112.length : Int) then ((word_Sum.f k (y142.take 60)).bind fun t153 => ((word_Num.f k 4 (IntKind.u64.wrap (t153))).bind fun t154 => (some ((y142.take 60 ++ t154.take (y142.length - 60) ++ y142.drop (60 + t154.length)), 0)))) else (none))) else (none))) else (none))) else (none)))) = some (r1, r2) := by first | (rw [hy117]; with_reducible exact H) | (have H2_ := (Option.bind_some _ _).symm.trans H; rw [hy117]; with_reducible exact H2_) | (have H2_ := (Option.bind_some _ _).symm.trans H; with_reducible exact H2_) | with_reducible exact H | (rw [hy117]; exact H) | exact H
              have Ny117 := Aside0.mk hy117
              clear hy117
              replace H := Option.bind_eq_some_iff.mp H
              obtain ⟨t121, A130, H⟩ := H
              replace H : ((some (y116.take 2 ++ t121.take (y116.length - 2) ++ y116.drop (2 + t121.length) : List Int)).bind fun y124 => (if 10 ≤ (y112.length : Int) then ((word_Num.f k 4 (IntKind.u64.wrap (mx a1_1 a1_4))).bind fun t131 => (if 14 < (y112.length : Int) then ((some ((y124.take 10 ++ t131.take (y124.length - 10) ++ y124.drop (10 + t131.length)).set (14 : Int).toNat ((a1_2) % 256) : List Int)).bind fun y137 => (if 16 ≤ (y112.length : Int) then ((some (y137.take 16 ++ l1_3.take (y137.length - 16) ++ y137.drop (16 + l1_3.length) : List Int)).bind fun y142 => (if 60 ≤ (y112.length : Int) then ((word_Sum.f k (y142.take 60)).bind fun t153 => ((word_Num.f k 4 (IntKind.u64.wrap (t153))).bind fun t154 => (some ((y142.take 60 ++ t154.take (y142.length - 60) ++ y142.drop (60 + t154.length)), 0)))) else (none))) else (none))) else (none))) else (none))) = some (r1, r2) := H
              have A13 := Aside0.mk A130
              clear A130
              obtain ⟨y124, hy124⟩ : ∃ y_ : List Int, y_ = (y116.take 2 ++ t121.take (y116.length - 2) ++ y116.drop (2 + t121.length)) := ⟨_, rfl⟩
              replace H : (if 10 ≤ (y112.length : Int) then ((word_Num.f k 4 (IntKind.u64.wrap (mx a1_1 a1_4))).bind fun t131 => (if 14 < (y112.length : Int) then ((some ((y124.take 10 ++ t131.take (y124.length - 10) ++ y124.drop (10 + t131.length)).set (14 : Int).toNat ((a1_2) % 256) : List Int)).bind fun y137 => (if 16 ≤ (y112.length : Int) then ((some (y137.take 16 ++ l1_3.take (y137.length - 16) ++ y137.drop (16 + l1_3.length) : List Int)).bind fun y142 => (if 60 ≤ (y112.length : Int) then ((word_Sum.f k (y142.take 60)).bind fun t153 => ((word_Num.f k 4 (IntKind.u64.wrap (t153))).bind fun t154 => (some ((y142.take 60 ++ t154.take (y142.length - 60) ++ y142.drop (60 + t154.length)), 0)))) else (none))) else (none))) else (none))) else (none)) = some (r1, r2) := by first | (rw [hy124]; with_reducible exact H) | (have H2_ := (Option.bind_some _ _).symm.trans H; rw [hy124]; with_reducible exact H2_) | (have H2_ := (Option.bind_some _ _).symm.trans H; with_reducible exact H2_) | with_reducible exact H | (rw [hy124]; exact H) | exact H
              have Ny124 := Aside0.mk hy124
              clear hy124
              by_cases c14 : 10 ≤ (y112.length : Int)
              · rw [if_pos c14] at H
                have c14b0 := eq_true c14
                have c14b1 : decide (10 ≤ (y112.length : Int)) = true := decide_eq_true c14
                clear c14
                obtain ⟨y127, hy127⟩ : ∃ y_ : List Int, y_ = (y124.drop 10) := ⟨_, rfl⟩
                replace H : ((word_Num.f k 4 (IntKind.u64.wrap (mx a1_1 a1_4))).bind fun t131 => (if 14 < (y112.length : Int) then ((some ((y124.take 10 ++ t131.take (y124.length - 10) ++ y124.drop (10 + t131.length)).set (14 : Int).toNat ((a1_2) % 256) : List Int)).bind fun y137 => (if 16 ≤ (y112.length : Int) then ((some (y137.take 16 ++ l1_3.take (y137.length - 16) ++ y137.drop (16 + l1_3.length) : List Int)).bind fun y142 => (if 60 ≤ (y112.length : Int) then ((word_Sum.f k (y142.take 60)).bind fun t153 => ((word_Num.f k 4 (IntKind.u64.wrap (t153))).bind fun t154 => (some ((y142.take 60 ++ t154.take (y142.length - 60) ++ y142.drop (60 + t154.length)), 0)))) else (none))) else (none))) else (none))) = some (r1, r2) := by first | (rw [hy127]; with_reducible exact H) | (have H2_ := (Option.bind_some _ _).symm.trans H; rw [hy127]; with_reducible exact H2_) | (have H2_ := (Option.bind_some _ _).symm.trans H; with_reducible exact H2_) | with_reducible exact H | (rw [hy127]; exact H) | exact H
                have Ny127 := Aside0.mk hy127
                clear hy127
                obtain ⟨ji15, hji15⟩ : ∃ j_ : Int, (mx a1_1 a1_4) = j_ := ⟨_, rfl⟩
                replace H : ((word_Num.f k 4 (IntKind.u64.wrap (ji15))).bind fun t131 => (if 14 < (y112.length : Int) then ((some ((y124.take 10 ++ t131.take (y124.length - 10) ++ y124.drop (10 + t131.length)).set (14 : Int).toNat ((a1_2) % 256) : List Int)).bind fun y137 => (if 16 ≤ (y112.length : Int) then ((some (y137.take 16 ++ l1_3.take (y137.length - 16) ++ y137.drop (16 + l1_3.length) : List Int)).bind fun y142 => (if 60 ≤ (y112.length : Int) then ((word_Sum.f k (y142.take 60)).bind fun t153 => ((word_Num.f k 4 (IntKind.u64.wrap (t153))).bind fun t154 => (some ((y142.take 60 ++ t154.take (y142.length - 60) ++ y142.drop (60 + t154.length)), 0)))) else (none))) else (none))) else (none))) = some (r1, r2) := by first | (rw [hji15] at H; exact H) | (simp only [hji15] at H ⊢; exact H)
                (try rw [hji15] at A3)
                (try rw [hji15] at A5)
                (try rw [hji15] at A13)
                have hji15_ : (if a1_1 < a1_4 then a1_4 else a1_1) = ji15 := hji15
                replace H := Option.bind_eq_some_iff.mp H
                obtain ⟨t131, A160, H⟩ := H
                replace H : (if 14 < (y112.length : Int) then ((some ((y124.take 10 ++ t131.take (y124.length - 10) ++ y124.drop (10 + t131.length)).set (14 : Int).toNat ((a1_2) % 256) : List Int)).bind fun y137 => (if 16 ≤ (y112.length : Int) then ((some (y137.take 16 ++ l1_3.take (y137.length - 16) ++ y137.drop (16 + l1_3.length) : List Int)).bind fun y142 => (if 60 ≤ (y112.length : Int) then ((word_Sum.f k (y142.take 60)).bind fun t153 => ((word_Num.f k 4 (IntKind.u64.wrap (t153))).bind fun t154 => (some ((y142.take 60 ++ t154.take (y142.length - 60) ++ y142.drop (60 + t154.length)), 0)))) else (none))) else (none))) else (none)) = some (r1, r2) := H
                have A16 := Aside0.mk A160
                clear A160
                obtain ⟨y134, hy134⟩ : ∃ y_ : List Int, y_ = (y124.take 10 ++ t131.take (y124.length - 10) ++ y124.drop (10 + t131.length)) := ⟨_, rfl⟩
                replace H : (if 14 < (y112.length : Int) then ((some (y134.set (14 : Int).toNat ((a1_2) % 256) : List Int)).bind fun y137 => (if 16 ≤ (y112.length : Int) then ((some (y137.take 16 ++ l1_3.take (y137.length - 16) ++ y137.drop (16 + l1_3.length) : List Int)).bind fun y142 => (if 60 ≤ (y112.length : Int) then ((word_Sum.f k (y142.take 60)).bind fun t153 => ((word_Num.f k 4 (IntKind.u64.wrap (t153))).bind fun t154 => (some ((y142.take 60 ++ t154.take (y142.length - 60) ++ y142.drop (60 + t154.length)), 0)))) else (none))) else (none))) else (none)) = some (r1, r2) := by first | (rw [hy134]; with_reducible exact H) | (have H2_ := (Option.bind_some _ _).symm.trans H; rw [hy134]; with_reducible exact H2_) | (have H2_ := (Option.bind_some _ _).symm.trans H; with_reducible exact H2_) | with_reducible exact H | (rw [hy134]; exact H) | exact H
                have Ny134 := Aside0.mk hy134
                clear hy134
                by_cases c17 : 14 < (y112.length : Int)
                · rw [if_pos c17] at H
                  have c17b0 : decide (14 < (y112.length : Int)) = true := decide_eq_true c17
                  have c17b1 : decide (14 < y112.length) = true := decide_eq_true (by omega)
                  clear c17
                  obtain ⟨y137, hy137⟩ : ∃ y_ : List Int, y_ = (y134.set (14 : Int).toNat ((a1_2) % 256)) := ⟨_, rfl⟩
                  replace H : (if 16 ≤ (y112.length : Int) then ((some (y137.take 16 ++ l1_3.take (y137.length - 16) ++ y137.drop (16 + l1_3.length) : List Int)).bind fun y142 => (if 60 ≤ (y112.length : Int) then ((word_Sum.f k (y142.take 60)).bind fun t153 => ((word_Num.f k 4 (IntKind.u64.wrap (t153))).bind fun t154 => (some ((y142.take 60 ++ t154.take (y142.length - 60) ++ y142.drop (60 + t154.length)), 0)))) else (none))) else (none)) = some (r1, r2) := by first | (rw [hy137]; with_reducible exact H) | (have H2_ := (Option.bind_some _ _).symm.trans H; rw [hy137]; with_reducible exact H2_) | (have H2_ := (Option.bind_some _ _).symm.trans H; with_reducible exact H2_) | with_reducible exact H | (rw [hy137]; exact H) | exact H
                  have Ny137 := Aside0.mk hy137
                  clear hy137
                  by_cases c19 : 16 ≤ (y112.length : Int)
                  · rw [if_pos c19] at H
                    have c19b0 := eq_true c19
                    have c19b1 : decide (16 ≤ (y112.length : Int)) = true := decide_eq_true c19
                    clear c19
                    obtain ⟨y138, hy138⟩ : ∃ y_ : List Int, y_ = (y137.drop 16) := ⟨_, rfl⟩
                    replace H : ((some (y137.take 16 ++ l1_3.take (y137.length - 16) ++ y137.drop (16 + l1_3.length) : List Int)).bind fun y142 => (if 60 ≤ (y112.length : Int) then ((word_Sum.f k (y142.take 60)).bind fun t153 => ((word_Num.f k 4 (IntKind.u64.wrap (t153))).bind fun t154 => (some ((y142.take 60 ++ t154.take (y142.length - 60) ++ y142.drop (60 + t154.length)), 0)))) else (none))) = some (r1, r2) := by first | (rw [hy138]; with_reducible exact H) | (have H2_ := (Option.bind_some _ _).symm.trans H; rw [hy138]; with_reducible exact H2_) | (have H2_ := (Option.bind_some _ _).symm.trans H; with_reducible exact H2_) | with_reducible exact H | (rw [hy138]; exact H) | exact H
                    have Ny138 := Aside0.mk hy138
                    clear hy138
                    obtain ⟨y142, hy142⟩ : ∃ y_ : List Int, y_ = (y137.take 16 ++ l1_3.take (y137.length - 16) ++ y137.drop (16 + l1_3.length)) := ⟨_, rfl⟩
                    replace H : (if 60 ≤ (y112.length : Int) then ((word_Sum.f k (y142.take 60)).bind fun t153 => ((word_Num.f k 4 (IntKind.u64.wrap (t153))).bind fun t154 => (some ((y142.take 60 ++ t154.take (y142.length - 60) ++ y142.drop (60 + t154.length)), 0)))) else (none)) = some (r1, r2) := by first | (rw [hy142]; with_reducible exact H) | (have H2_ := (Option.bind_some _ _).symm.trans H; rw [hy142]; with_reducible exact H2_) | (have H2_ := (Option.bind_some _ _).symm.trans H; with_reducible exact H2_) | with_reducible exact H | (rw [hy142]; exact H) | exact H
                    have Ny142 := Aside0.mk hy142
                    clear hy142
                    by_cases c20 : 60 ≤ (y112.length : Int)
                    · rw [if_pos c20] at H
                      have c20b0 := eq_true c20
                      have c20b1 : decide (60 ≤ (y112.length : Int)) = true := decide_eq_true c20
                      clear c20
                      obtain ⟨y145, hy145⟩ : ∃ y_ : List Int, y_ = (y142.drop 60) := ⟨_, rfl⟩
                      replace H : ((word_Sum.f k (y142.take 60)).bind fun t153 => ((word_Num.f k 4 (IntKind.u64.wrap (t153))).bind fun t154 => (some ((y142.take 60 ++ t154.take (y142.length - 60) ++ y142.drop (60 + t154.length)), 0)))) = some (r1, r2) := by first | (rw [hy145]; with_reducible exact H) | (have H2_ := (Option.bind_some _ _).symm.trans H; rw [hy145]; with_reducible exact H2_) | (have H2_ := (Option.bind_some _ _).symm.trans H; with_reducible exact H2_) | with_reducible exact H | (rw [hy145]; exact H) | exact H
                      have Ny145 := Aside0.mk hy145
                      clear hy145
                      have c21b0 := eq_true (of_decide_eq_true (by first | (with_reducible assumption) | assumption) : 60 ≤ (y112.length : Int))
                      obtain ⟨y149, hy149⟩ : ∃ y_ : List Int, y_ = (y142.take 60) := ⟨_, rfl⟩
                      replace H : ((word_Sum.f k y149).bind fun t153 => ((word_Num.f k 4 (IntKind.u64.wrap (t153))).bind fun t154 => (some ((y142.take 60 ++ t154.take (y142.length - 60) ++ y142.drop (60 + t154.length)), 0)))) = some (r1, r2) := by first | (rw [hy149]; with_reducible exact H) | (have H2_ := (Option.bind_some _ _).symm.trans H; rw [hy149]; with_reducible exact H2_) | (have H2_ := (Option.bind_some _ _).symm.trans H; with_reducible exact H2_) | with_reducible exact H | (rw [hy149]; exact H) | exact H
                      have Ny149 := Aside0.mk hy149
                      clear hy149
                      replace H := Option.bind_eq_some_iff.mp H
                      obtain ⟨t153, A220, H⟩ := H
                      replace H : ((word_Num.f k 4 (IntKind.u64.wrap (t153))).bind fun t154 => (some ((y142.take 60 ++ t154.take (y142.length - 60) ++ y142.drop (60 + t154.length)), 0))) = some (r1, r2) := H
                      have A22 := Aside0.mk A220
                      clear A220
                      replace H := Option.bind_eq_some_iff.mp H
                      obtain ⟨t154, A230, H⟩ := H
                      replace H : (some ((y142.take 60 ++ t154.take (y142.length - 60) ++ y142.drop (60 + t154.length)), 0)) = some (r1, r2) := H
                      have A23 := Aside0.mk A230
                      clear A230
                      obtain ⟨y157, hy157⟩ : ∃ y_ : List Int, y_ = (y142.take 60 ++ t154.take (y142.length - 60) ++ y142.drop (60 + t154.length)) := ⟨_, rfl⟩
                      replace H : (some (y157, 0)) = some (r1, r2) := by first | (rw [hy157]; with_reducible exact H) | (have H2_ := (Option.bind_some _ _).symm.trans H; rw [hy157]; with_reducible exact H2_) | (have H2_ := (Option.bind_some _ _).symm.trans H; with_reducible exact H2_) | with_reducible exact H | (rw [hy157]; exact H) | exact H
                      have Ny157 := Aside0.mk hy157
                      clear hy157
                      simp only [Option.some.injEq, Prod.mk.injEq] at H
                      obtain ⟨rfl, rfl⟩ := H
                      go_enter Try.func8, Try.ntmps8
                      try go_wp2_with (first | ((with_reducible refine gate_dst (N := 3) rfl ?_); refine box_event ?hg (N := 3) ?hd (cs := #[.int .i64 a1_0, .int .i64 a1_1, .int .i64 a1_2, .slice A1_3 l1_3.length c1_3, .int .i64 a1_4]) (t := 24) ?hr ?_; (case hd => rfl); (case hg => rfl); (case hr => first | (go_simp; done) | (go_simp; rfl)); intro gb109 hg w24 hbox hb; have n0_ := Aside0.mk (below_step (by repeat (first | (with_reducible first | exact HB.out | apply below_alloc | apply pw_below_drewN | apply below_drew1) | exact HB.out)) hb); have n1_ := Aside0.mk (hbox); have n2_ := Aside0.mk ((by rw [hg]; exact (below_size (by repeat (first | (with_reducible first | exact HB.out | apply below_alloc | apply pw_below_drewN | apply below_drew1) | exact HB.out))) : w.heap.size ≤ gb109)); have n3_ := Aside0.mk ((by rw [hg]; exact (below_size (by repeat (first | (with_reducible first | exact HB.out | apply below_alloc | apply pw_below_drewN | apply below_drew1) | exact HB.out))) : w.heap.size ≤ gb109)); clear HB; have HB := n0_; have BK109 := n1_; have GW109 := n2_; have GE109 := n3_; clear n0_ n1_ n2_ n3_; clear hb hbox hg) | ((with_reducible refine gate_callee (f := 22) rfl ?_); refine goesL_ (some 9) rfl rfl Try.func22 (by kernel_rfl) rfl #[.int .i64 a0] rfl (by (try simp only [List.map_toArray, List.map_cons, List.map_nil]); first | done | rfl | (simp only [List.length_drop, List.length_take]; rfl)) ?_; (with_reducible refine (record_may.calls a0 true _ A3.out).mono ?_); rintro e w' ⟨rfl, ⟨nd, rfl⟩⟩; refine ⟨_, rfl, ?_⟩; (try (rw [drewN_self w24]; generalize hq_ : World.drewN w24 _ = w24; have n0_ : Aside0 (w24.heap[gb109]? = some (.cells #[.int .i64 a1_0, .int .i64 a1_1, .int .i64 a1_2, .slice A1_3 l1_3.length c1_3, .int .i64 a1_4] 24 (0, 0))) := ⟨by rw [← hq_]; exact (by (with_reducible repeat (first | refine blk_drewN ?_ _ | refine blk_drew ?_ | refine blk_alloc ?_ _)); exact BK109.out)⟩; have n1_ : Aside0 (Below w.heap.size w w24) := ⟨by rw [← hq_]; exact (by repeat (first | (with_reducible first | exact HB.out | apply below_alloc | apply pw_below_drewN | apply below_drew1 | refine below_set ?_ GE109.out) | exact HB.out))⟩; clear BK109 HB hq_; have BK109 := n0_; have HB := n1_; clear n0_ n1_; have hcu25 : w24.cell? ⟨gb109, 0, none⟩ = some (.int .i64 a1_0) := (blk_cell BK109.out 0).trans rfl; have hfu25 := blk_frozen BK109.out 0; have hcu26 : w24.cell? ⟨gb109, 1, none⟩ = some (.int .i64 a1_1) := (blk_cell BK109.out 1).trans rfl; have hfu26 := blk_frozen BK109.out 1; have hcu27 : w24.cell? ⟨gb109, 2, none⟩ = some (.int .i64 a1_2) := (blk_cell BK109.out 2).trans rfl; have hfu27 := blk_frozen BK109.out 2; have hcu28 : w24.cell? ⟨gb109, 3, none⟩ = some (.slice A1_3 l1_3.length c1_3) := (blk_cell BK109.out 3).trans rfl; have hfu28 := blk_frozen BK109.out 3; have hcu29 : w24.cell? ⟨gb109, 4, none⟩ = some (.int .i64 a1_4) := (blk_cell BK109.out 4).trans rfl; have hfu29 := blk_frozen BK109.out 4)); have hcz30_0 : w24.cell? ⟨gb109, 0, none⟩ = some (.int .i64 a1_0) := (blk_cell BK109.out 0).trans rfl; have hcz30_1 : w24.cell? ⟨gb109, 1, none⟩ = some (.int .i64 a1_1) := (blk_cell BK109.out 1).trans rfl; have hcz30_2 : w24.cell? ⟨gb109, 2, none⟩ = some (.int .i64 a1_2) := (blk_cell BK109.out 2).trans rfl; have hcz30_3 : w24.cell? ⟨gb109, 3, none⟩ = some (.slice A1_3 l1_3.length c1_3) := (blk_cell BK109.out 3).trans rfl; have hcz30_4 : w24.cell? ⟨gb109, 4, none⟩ = some (.int .i64 a1_4) := (blk_cell BK109.out 4).trans rfl; have hfz30_0 := blk_frozen BK109.out 0; have hfz30_1 := blk_frozen BK109.out 1; have hfz30_2 := blk_frozen BK109.out 2; have hfz30_3 := blk_frozen BK109.out 3; have hfz30_4 := blk_frozen BK109.out 4) | ((with_reducible refine gate_callee (f := 14) rfl ?_); refine goesL_ (some 12) rfl rfl Try.func14 (by kernel_rfl) rfl #[.agg #[.int .i64 a1_0, .int .i64 a1_1, .int .i64 a1_2, .slice A1_3 l1_3.length c1_3, .int .i64 a1_4]] rfl (by (try simp only [List.map_toArray, List.map_cons, List.map_nil]); first | done | rfl | (simp only [List.length_drop, List.length_take]; rfl)) ?_; (with_reducible refine (record_Check.calls a1_0 a1_1 a1_2 _ _ l1_3 a1_4 t111 _ ?side1 ?side2 A5.out).mono ?_); (case side1 => repeat (first | exact (Kd.C_below HR1_3.out HB.out) | (with_reducible refine Kd.C_alloc ?_ _) | (with_reducible refine Kd.C_drewN ?_ _) | (with_reducible refine Kd.C_drew ?_))); (case side2 => exact HC1_3.out); rintro e w31 ⟨rfl, hb⟩; refine ⟨_, rfl, ?_⟩; have n0_ := Aside0.mk (blk_below (g := gb109) (o := .cells #[.int .i64 a1_0, .int .i64 a1_1, .int .i64 a1_2, .slice A1_3 l1_3.length c1_3, .int .i64 a1_4] 24 (0, 0)) (by (with_reducible repeat (first | refine blk_drewN ?_ _ | refine blk_drew ?_ | refine blk_alloc ?_ _)); exact BK109.out) hb); have n1_ := Aside0.mk (below_step (by repeat (first | (with_reducible first | exact HB.out | apply below_alloc | apply pw_below_drewN | apply below_drew1 | refine below_set ?_ GE109.out) | exact HB.out)) hb); clear BK109; clear HB; have BK109 := n0_; have HB := n1_; clear n0_ n1_; (try clear hb); (try clear hb2); (try clear hk); (try clear hi)) | ((with_reducible refine gate_dst (N := 16) rfl ?_); refine Kd.R_make (Kd.int .u8) _ 5 rfl (N := 16) rfl 22 _ _ rfl 64 rfl rfl Try.underlying22 (.int .u8 0) 1 info5 rfl (by decide) (by omega) 0 (ok := fun _ => True) (okp := fun _ => True) rfl (fun _ hk => hk) trivial (by omega) (by omega) (Below.refl _ _) (Nat.le_refl _) ?_; intro v113 w32 ho33 hb hg_ hnew_; clear hg_ hnew_; (first | rw [← Ny112.out] at ho33 | (simp only [Int.reduceToNat] at ho33; rw [← Ny112.out] at ho33)); have n0_ := Aside0.mk (Kd.R_lower ho33 (below_size (by repeat (first | (with_reducible first | exact HB.out | apply below_alloc | apply pw_below_drewN | apply below_drew1 | refine below_set ?_ GE109.out) | exact HB.out)))); have n1_ := Aside0.mk (blk_below (g := gb109) (o := .cells #[.int .i64 a1_0, .int .i64 a1_1, .int .i64 a1_2, .slice A1_3 l1_3.length c1_3, .int .i64 a1_4] 24 (0, 0)) (by (with_reducible repeat (first | refine blk_drewN ?_ _ | refine blk_drew ?_ | refine blk_alloc ?_ _)); exact BK109.out) hb); have n2_ := Aside0.mk (below_step (by repeat (first | (with_reducible first | exact HB.out | apply below_alloc | apply pw_below_drewN | apply below_drew1 | refine below_set ?_ GE109.out) | exact HB.out)) hb); clear BK109; clear HB; have HO114 := n0_; have BK109 := n1_; have HB := n2_; clear n0_ n1_ n2_; clear hb ho33))
                      have n0_ := Aside0.mk (Kd.R_drew HO114.out)
                      have n1_ := Aside0.mk (blk_drew BK109.out)
                      have n2_ := Aside0.mk (below_drew1 HB.out)
                      clear HO114
                      clear BK109
                      clear HB
                      have HO114 := n0_
                      have BK109 := n1_
                      have HB := n2_
                      clear n0_ n1_ n2_
                      have p9 : 0 ≤ (0 : Int) := (by omega)
                      have q9 : (0 : Int) < ((y112.length : Int) : Int) := of_decide_eq_true (by first | (with_reducible assumption) | assumption)
                      have qi9 : (0 < y112.length) = True := eq_true (by omega)
                      obtain ⟨go9, co9, eo9, gb9, gl9, cl9, HG9⟩ := Kd.R_form HO114.out (by omega)
                      (first | cases eo9 | (injection eo9 with ea_ en_ ec_; (first | subst ea_ | (injection ea_ with ea_; subst ea_)); subst ec_; clear en_))
                      have GB9 := Aside0.mk gb9
                      have GG9 := Aside0.mk HG9
                      clear gb9 gl9 HG9
                      obtain ⟨hx9_0, hf9_0⟩ := Kd.R_celln 0 HO114.out (0 : Int) p9 q9
                      (try rw [show ((0 : Int)).toNat = 0 from rfl] at hx9_0)
                      (try simp only [Nat.reduceMul, Nat.zero_mul, Nat.zero_add, Nat.reduceAdd] at hx9_0)
                      (try rw [show ((0 : Int)).toNat = 0 from rfl] at hf9_0)
                      (try simp only [Nat.reduceMul, Nat.zero_mul, Nat.zero_add, Nat.reduceAdd] at hf9_0)
                      replace p9 := eq_true p9
                      replace q9 := eq_true q9
                      have HNB109_go9 := Aside0.mk (show gb109 ≠ go9 from by have h_ := Kd.R_ne HO114.out BK109.out (by decide); intro e_; exact h_ (by rw [e_]; rfl))
                      have HP35 := Kd.R_putn HO114.out (0 : Int) ((a1_0) % 256)
                      rw [← Ny115.out] at HP35
                      have HQ35 := Aside0.mk HP35
                      clear HP35
                      have p11 : 0 ≤ (1 : Int) := (by omega)
                      have q11 : (1 : Int) < ((y112.length : Int) : Int) := of_decide_eq_true (by first | (with_reducible assumption) | assumption)
                      have qi11 : (1 < y112.length) = True := eq_true (by omega)
                      obtain ⟨hx11_0, hf11_0⟩ := Kd.R_celln 0 HQ35.out (1 : Int) p11 q11
                      (try rw [show ((1 : Int)).toNat = 1 from rfl] at hx11_0)
                      (try simp only [Nat.reduceMul, Nat.zero_mul, Nat.zero_add, Nat.reduceAdd] at hx11_0)
                      (try rw [show ((1 : Int)).toNat = 1 from rfl] at hf11_0)
                      (try simp only [Nat.reduceMul, Nat.zero_mul, Nat.zero_add, Nat.reduceAdd] at hf11_0)
                      (try replace hx11_0 := (World.cell?_setCell_other _ _ _ _ (by simp)).symm.trans hx11_0)
                      (try rw [World.frozen?_setCell] at hf11_0)
                      replace p11 := eq_true p11
                      replace q11 := eq_true q11
                      have HNB109_go9 := Aside0.mk (show gb109 ≠ go9 from by have h_ := Kd.R_ne HO114.out BK109.out (by decide); intro e_; exact h_ (by rw [e_]; rfl))
                      have HP36 := Kd.R_putn HQ35.out (1 : Int) (((l1_3.length : Int)) % 256)
                      rw [← Ny116.out] at HP36
                      have HQ36 := Aside0.mk HP36
                      clear HP36
                      refine start_ (n := 13) (S := fun w' => w'.cell? ⟨gb109, 0, none⟩ = some (.int .i64 a1_0) ∧ w'.cell? ⟨gb109, 1, none⟩ = some (.int .i64 a1_1) ∧ w'.cell? ⟨gb109, 2, none⟩ = some (.int .i64 a1_2) ∧ w'.cell? ⟨gb109, 3, none⟩ = some (.slice A1_3 l1_3.length c1_3) ∧ w'.cell? ⟨gb109, 4, none⟩ = some (.int .i64 a1_4)) (ds := []) #[false, false, false, false, false, false, false, false, false, false, false, false, false] (by kernel_rfl) rfl rfl ⟨(blk_cell BK109.out 0).trans rfl, (blk_cell BK109.out 1).trans rfl, (blk_cell BK109.out 2).trans rfl, (blk_cell BK109.out 3).trans rfl, (blk_cell BK109.out 4).trans rfl⟩ (fun hHeld => ?_); refine with_tabW record_Bytes.tab7 record_Bytes.bits7 (fun HT_ HW_ => ?_)
                      generalize w32.drew = w34 at HO114 BK109 HB GG9 HQ35 HQ36 hf11_0 hf9_0 hx11_0 hx9_0 hHeld ⊢
                      refine pure_ (i := 0) (N := some 17) (v := ?_) (a' := ?_) #[true, false, false, false, false, false, false, false, false, false, false, false, false] rfl rfl (any_of HT_.out (by kernel_rfl)) (fun _ _ _ h => h) (Or.inl ⟨by rfl, ?_⟩) ?_ ?_
                      rotate_left
                      · intro w'
                        go_simp
                        with_reducible rfl
                      rotate_left
                      · simp only [Act.put, List.setIfInBounds_toArray, List.set_cons_zero, List.set_cons_succ, i64_w, i32_w]
                        rfl
                      refine pure_ (i := 1) (N := some 18) (v := ?_) (a' := ?_) #[true, true, false, false, false, false, false, false, false, false, false, false, false] rfl rfl (any_of HT_.out (by kernel_rfl)) (fun _ _ _ h => h) (Or.inl ⟨by rfl, ?_⟩) ?_ ?_
                      rotate_left
                      · intro w'
                        go_simp
                        with_reducible rfl
                      rotate_left
                      · simp only [Act.put, List.setIfInBounds_toArray, List.set_cons_zero, List.set_cons_succ, i64_w, i32_w]
                        rfl
                      refine pure_ (i := 2) (N := some 19) (v := ?_) (a' := ?_) #[true, true, true, false, false, false, false, false, false, false, false, false, false] rfl rfl (any_of HT_.out (by kernel_rfl)) (fun _ _ _ h => h) (Or.inl ⟨by rfl, ?_⟩) ?_ ?_
                      rotate_left
                      · intro w'
                        go_simp
                        with_reducible rfl
                      rotate_left
                      · simp only [Act.put, List.setIfInBounds_toArray, List.set_cons_zero, List.set_cons_succ, i64_w, i32_w]
                        rfl
                      refine pure_ (i := 5) (N := some 22) (v := ?_) (a' := ?_) #[true, true, true, false, false, true, false, false, false, false, false, false, false] rfl rfl (any_of HT_.out (by kernel_rfl)) (fun _ _ _ h => h) (Or.inl ⟨by rfl, ?_⟩) ?_ ?_
                      rotate_left
                      · intro w'
                        go_simp
                        with_reducible rfl
                      rotate_left
                      · simp only [Act.put, List.setIfInBounds_toArray, List.set_cons_zero, List.set_cons_succ, i64_w, i32_w]
                        rfl
                      refine take_ (i := 3) (N := some 20) (v := ?_) (a' := ?_) #[true, true, true, true, false, true, false, false, false, false, false, false, false] rfl rfl (take_ofW HT_.out HW_.out (by kernel_rfl)) (fun _ _ _ h => h) (Or.inl ⟨by rfl, ?_⟩) hHeld ?_ ?_
                      rotate_left
                      · rintro w' ⟨s0, s1, s2, s3, s4⟩
                        go_simp
                        with_reducible rfl
                      rotate_left
                      · simp only [Act.put, List.setIfInBounds_toArray, List.set_cons_zero, List.set_cons_succ, i64_w, i32_w]
                        rfl
                      refine pure_ (i := 4) (N := some 21) (v := ?_) (a' := ?_) #[true, true, true, true, true, true, false, false, false, false, false, false, false] rfl rfl (any_of HT_.out (by kernel_rfl)) (fun _ _ _ h => h) (Or.inl ⟨by rfl, ?_⟩) ?_ ?_
                      rotate_left
                      · intro w'
                        go_simp
                        with_reducible rfl
                      rotate_left
                      · simp only [Act.put, List.setIfInBounds_toArray, List.set_cons_zero, List.set_cons_succ, i64_w, i32_w]
                        rfl
                      refine pure_ (i := 9) (N := some 26) (v := ?_) (a' := ?_) #[true, true, true, true, true, true, false, false, false, true, false, false, false] rfl rfl (any_of HT_.out (by kernel_rfl)) (fun _ _ _ h => h) (Or.inl ⟨by rfl, ?_⟩) ?_ ?_
                      rotate_left
                      · intro w'
                        go_simp
                        with_reducible rfl
                      rotate_left
                      · simp only [Act.put, List.setIfInBounds_toArray, List.set_cons_zero, List.set_cons_succ, i64_w, i32_w]
                        rfl
                      refine take_ (i := 6) (N := some 23) (v := ?_) (a' := ?_) #[true, true, true, true, true, true, true, false, false, true, false, false, false] rfl rfl (take_ofW HT_.out HW_.out (by kernel_rfl)) (fun _ _ _ h => h) (Or.inl ⟨by rfl, ?_⟩) hHeld ?_ ?_
                      rotate_left
                      · rintro w' ⟨s0, s1, s2, s3, s4⟩
                        go_simp
                        with_reducible rfl
                      rotate_left
                      · simp only [Act.put, List.setIfInBounds_toArray, List.set_cons_zero, List.set_cons_succ, i64_w, i32_w]
                        rfl
                      refine pure_ (i := 7) (N := some 24) (v := ?_) (a' := ?_) #[true, true, true, true, true, true, true, true, false, true, false, false, false] rfl rfl (any_of HT_.out (by kernel_rfl)) (fun _ _ _ h => h) (Or.inl ⟨by rfl, ?_⟩) ?_ ?_
                      rotate_left
                      · intro w'
                        go_simp
                        with_reducible rfl
                      rotate_left
                      · simp only [Act.put, List.setIfInBounds_toArray, List.set_cons_zero, List.set_cons_succ, i64_w, i32_w]
                        rfl
                      refine pure_ (i := 8) (N := some 25) (v := ?_) (a' := ?_) #[true, true, true, true, true, true, true, true, true, true, false, false, false] rfl rfl (any_of HT_.out (by kernel_rfl)) (fun _ _ _ h => h) (Or.inl ⟨by rfl, ?_⟩) ?_ ?_
                      rotate_left
                      · intro w'
                        go_simp
                        with_reducible rfl
                      rotate_left
                      · simp only [Act.put, List.setIfInBounds_toArray, List.set_cons_zero, List.set_cons_succ, i64_w, i32_w]
                        rfl
                      refine one_ (i := 10) (N := none) #[true, true, true, true, true, true, true, true, true, true, true, false, false] rfl rfl (one_of HT_.out (by kernel_rfl)) (by decide) (fun K hK => ?_)
                      refine skip_ (w1 := ?_) (by rfl) rfl ?_ ?_
                      rotate_left
                      · go_simp
                        rfl
                      refine hK.out _ _ ⟨((cell_far (p := ⟨go9, _, none⟩) HNB109_go9.out _).trans (hHeld.1)), ((cell_far (p := ⟨go9, _, none⟩) HNB109_go9.out _).trans (hHeld.2.1)), ((cell_far (p := ⟨go9, _, none⟩) HNB109_go9.out _).trans (hHeld.2.2.1)), ((cell_far (p := ⟨go9, _, none⟩) HNB109_go9.out _).trans (hHeld.2.2.2.1)), ((cell_far (p := ⟨go9, _, none⟩) HNB109_go9.out _).trans (hHeld.2.2.2.2))⟩ (fun hHeld => ?_)
                      clear hK K
                      refine pure_ (i := 11) (N := some 27) (v := ?_) (a' := ?_) #[true, true, true, true, true, true, true, true, true, true, true, true, false] rfl rfl (any_of HT_.out (by kernel_rfl)) (fun _ _ _ h => h) (Or.inl ⟨by rfl, ?_⟩) ?_ ?_
                      rotate_left
                      · intro w'
                        go_simp
                        with_reducible rfl
                      rotate_left
                      · simp only [Act.put, List.setIfInBounds_toArray, List.set_cons_zero, List.set_cons_succ, i64_w, i32_w]
                        rfl
                      refine one_ (i := 12) (N := none) #[true, true, true, true, true, true, true, true, true, true, true, true, true] rfl rfl (one_of HT_.out (by kernel_rfl)) (by decide) (fun K hK => ?_)
                      refine skip_ (w1 := ?_) (by rfl) rfl ?_ ?_
                      rotate_left
                      · go_simp
                        rfl
                      refine hK.out _ _ ⟨((cell_far (p := ⟨go9, _, none⟩) HNB109_go9.out _).trans (hHeld.1)), ((cell_far (p := ⟨go9, _, none⟩) HNB109_go9.out _).trans (hHeld.2.1)), ((cell_far (p := ⟨go9, _, none⟩) HNB109_go9.out _).trans (hHeld.2.2.1)), ((cell_far (p := ⟨go9, _, none⟩) HNB109_go9.out _).trans (hHeld.2.2.2.1)), ((cell_far (p := ⟨go9, _, none⟩) HNB109_go9.out _).trans (hHeld.2.2.2.2))⟩ (fun hHeld => ?_)
                      clear hK K
                      refine done_ (done_of HT_.out (by kernel_rfl)) ?_
                      try go_wp2
                      have n0_ : Aside0 (Kd.R (Kd.int .u8) 5 ((w34.setCell ⟨go9, 0, none⟩ (.int .u8 ((a1_0) % 256))).setCell ⟨go9, 1, none⟩ (.int .u8 (((l1_3.length : Int)) % 256))) w.heap.size (fun _ => True) (.slice (some ⟨go9, 0, none⟩) y112.length co9) y116) := ⟨by (with_reducible repeat (first | apply Kd.R_alloc | apply Kd.R_drewN | apply Kd.R_drew)); exact HQ36.out⟩
                      have n1_ : Aside0 (((w34.setCell ⟨go9, 0, none⟩ (.int .u8 ((a1_0) % 256))).setCell ⟨go9, 1, none⟩ (.int .u8 (((l1_3.length : Int)) % 256))).heap[gb109]? = some (.cells #[.int .i64 a1_0, .int .i64 a1_1, .int .i64 a1_2, .slice A1_3 l1_3.length c1_3, .int .i64 a1_4] 24 (0, 0))) := ⟨by (with_reducible repeat (first | refine blk_drewN ?_ _ | refine blk_drew ?_ | refine blk_alloc ?_ _)); refine blk_far ?_ (by have h_ := Kd.R_ne HO114.out BK109.out (by decide); intro e_; exact h_ (by rw [e_]; rfl)) _; (with_reducible repeat (first | refine blk_drewN ?_ _ | refine blk_drew ?_ | refine blk_alloc ?_ _)); refine blk_far ?_ (by have h_ := Kd.R_ne HO114.out BK109.out (by decide); intro e_; exact h_ (by rw [e_]; rfl)) _; (with_reducible repeat (first | refine blk_drewN ?_ _ | refine blk_drew ?_ | refine blk_alloc ?_ _)); exact BK109.out⟩
                      have n2_ : Aside0 (Below w.heap.size w ((w34.setCell ⟨go9, 0, none⟩ (.int .u8 ((a1_0) % 256))).setCell ⟨go9, 1, none⟩ (.int .u8 (((l1_3.length : Int)) % 256)))) := ⟨by repeat (first | (with_reducible first | exact HB.out | apply below_alloc | apply pw_below_drewN | apply below_drew1 | refine below_set ?_ GB9.out | refine below_set ?_ GB9.out | refine below_set ?_ GE109.out) | exact HB.out)⟩
                      (try clear HO114)
                      (try clear BK109)
                      (try clear HB)
                      (try simp only [setCell_drewN_])
                      (try simp only [u8_wrap_])
                      generalize ((w34.setCell ⟨go9, 0, none⟩ (.int .u8 ((a1_0) % 256))).setCell ⟨go9, 1, none⟩ (.int .u8 (((l1_3.length : Int)) % 256))) = w37 at n0_ n1_ n2_ ⊢
                      have HO114 := n0_
                      have BK109 := n1_
                      have HB := n2_
                      clear n0_ n1_ n2_
                      (try (rw [drewN_self w37]; generalize hq_ : World.drewN w37 _ = w37; have n0_ := Aside0.mk (Kd.R_at hq_ HO114.out); have n1_ := Aside0.mk (blk_at hq_ BK109.out); have n2_ := Aside0.mk (below_at hq_ HB.out); clear hq_ HO114 BK109 HB; have HO114 := n0_; have BK109 := n1_; have HB := n2_; clear n0_ n1_ n2_))
                      have n0_ := Aside0.mk (Kd.R_drew HO114.out)
                      have n1_ := Aside0.mk (blk_drew BK109.out)
                      have n2_ := Aside0.mk (below_drew1 HB.out)
                      clear HO114
                      clear BK109
                      clear HB
                      have HO114 := n0_
                      have BK109 := n1_
                      have HB := n2_
                      clear n0_ n1_ n2_
                      have hlx39 := (Kd.R_reads' HO114.out).1
                      have q39 : (2 : Int) ≤ ((y112.length : Int) : Int) := of_decide_eq_true (by first | (with_reducible assumption) | assumption)
                      obtain ⟨i039, hi039, _, hsz39, _⟩ := info_parts info5
                      have hroom39 : y112.length ≤ co9 := (Kd.R_reads' HO114.out).2.1
                      have hroomc39 : y116.length ≤ co9 := (by rw [← hlx39]; exact hroom39)
                      have hC39 : Kd.C (Kd.int .u8) _ (some ⟨go9, 0, none⟩) y116.length y116 := (Kd.R_reads' HO114.out).2.2
                      have hcut39 := cut_from (P := Try.prog) 22 5 .i64 Try.underlying22 hi039 1 hsz39 (some ⟨go9, 0, none⟩) y112.length co9 2 (by omega) q39
                      have hr39 := Kd.C_drop (m := (2 : Int).toNat) (c := co9) hC39 (by omega) hroomc39
                      obtain ⟨A39, hA39⟩ : ∃ A1, A1 = (if co9 = (2 : Int).toNat then (some ⟨go9, 0, none⟩) else ((some ⟨go9, 0, none⟩) : Option Addr).map (·.add ((2 : Int).toNat * 1))) := ⟨_, rfl⟩
                      obtain ⟨c39, hc39⟩ : ∃ c1, c1 = co9 - (2 : Int).toNat := ⟨_, rfl⟩
                      have hy39 : y117.length = y112.length - (2 : Int).toNat := (by rw [Ny117.out, List.length_drop] <;> omega)
                      rw [show (y116).drop (2 : Int).toNat = y117 from Ny117.out.symm] at hr39
                      replace hr39 : Kd.C (Kd.int .u8) _ A39 y117.length y117 := (by rw [hA39]; exact hr39)
                      rw [← hy39, ← hA39, ← hc39] at hcut39
                      have HR120 := Aside0.mk hr39
                      have HC120 := Aside0.mk (show y117.length ≤ c39 from by rw [hy39, hc39]; exact Nat.sub_le_sub_right hroom39 _)
                      clear hr39 hC39 hroom39 hi039 hsz39 hc39 hroomc39
                      have KY39 := Aside0.mk hy39
                      have KA39 := Aside0.mk hA39
                      clear hy39 hA39
                      have KE39 := Aside0.mk hlx39
                      have KL39 := Aside0.mk (show 2 ≤ y116.length from by omega)
                      clear hlx39
                      replace q39 := eq_true q39
                      refine start_ (n := 6) (S := fun w' => True) (ds := []) #[false, false, false, false, false, false] (by kernel_rfl) rfl rfl trivial (fun hHeld => ?_)
                      generalize w37.drew = w38 at HO114 BK109 HB HQ36 HR120 hHeld ⊢
                      refine pure_ (i := 0) (N := some 28) (v := ?_) (a' := ?_) #[true, false, false, false, false, false] rfl rfl (by kernel_rfl) (fun _ _ _ h => h) (Or.inl ⟨by rfl, ?_⟩) ?_ ?_
                      rotate_left
                      · intro w'
                        go_simp
                        with_reducible rfl
                      rotate_left
                      · simp only [Act.put, List.setIfInBounds_toArray, List.set_cons_zero, List.set_cons_succ, i64_w, i32_w]
                        rfl
                      refine pure_ (i := 1) (N := some 29) (v := ?_) (a' := ?_) #[true, true, false, false, false, false] rfl rfl (by kernel_rfl) (fun _ _ _ h => h) (Or.inl ⟨by rfl, ?_⟩) ?_ ?_
                      rotate_left
                      · intro w'
                        go_simp
                        with_reducible rfl
                      rotate_left
                      · simp only [Act.put, List.setIfInBounds_toArray, List.set_cons_zero, List.set_cons_succ, i64_w, i32_w]
                        rfl
                      refine pure_ (i := 2) (N := some 30) (v := ?_) (a' := ?_) #[true, true, true, false, false, false] rfl rfl (by kernel_rfl) (fun _ _ _ h => h) (Or.inl ⟨by rfl, ?_⟩) ?_ ?_
                      rotate_left
                      · intro w'
                        go_simp
                        with_reducible rfl
                      rotate_left
                      · simp only [Act.put, List.setIfInBounds_toArray, List.set_cons_zero, List.set_cons_succ, i64_w, i32_w]
                        rfl
                      refine pure_ (i := 3) (N := some 31) (v := ?_) (a' := ?_) #[true, true, true, true, false, false] rfl rfl (by kernel_rfl) (fun _ _ _ h => h) (Or.inl ⟨by rfl, ?_⟩) ?_ ?_
                      rotate_left
                      · intro w'
                        go_simp
                        with_reducible rfl
                      rotate_left
                      · simp only [Act.put, List.setIfInBounds_toArray, List.set_cons_zero, List.set_cons_succ, i64_w, i32_w]
                        rfl
                      refine one_ (i := 4) (N := some 32) #[true, true, true, true, true, false] rfl rfl (by kernel_rfl) (by decide) (fun K hK => ?_)
                      refine goes_ Try.func23 (by kernel_rfl) rfl #[.int .i64 8, .int .u64 (IntKind.u64.wrap (a0))] (by rfl) rfl rfl (by (try simp only [List.map_toArray, List.map_cons, List.map_nil]); first | done | rfl | (simp only [List.length_drop, List.length_take]; rfl)) ?_
                      with_reducible refine (word_Num.calls k 8 (IntKind.u64.wrap (a0)) t121 _ A13.out).mono ?_
                      rintro e w40 ⟨v122, rfl, ho0, hb⟩
                      refine ⟨_, rfl, ?_⟩
                      have n0_ := Aside0.mk (Kd.R_elder' (by (with_reducible repeat (first | apply Kd.R_alloc | apply Kd.R_drewN | apply Kd.R_drew)); exact HO114.out) (Kd.R_base ho0) hb)
                      have n1_ := Aside0.mk (Kd.R_lower (Kd.R_new' ho0 (Kd.R_lt (by (with_reducible repeat (first | apply Kd.R_alloc | apply Kd.R_drewN | apply Kd.R_drew)); exact HO114.out))) (below_size (by repeat (first | (with_reducible first | exact HB.out | apply below_alloc | apply pw_below_drewN | apply below_drew1 | refine below_set ?_ GE109.out) | exact HB.out))))
                      have n2_ := Aside0.mk (blk_below (g := gb109) (o := .cells #[.int .i64 a1_0, .int .i64 a1_1, .int .i64 a1_2, .slice A1_3 l1_3.length c1_3, .int .i64 a1_4] 24 (0, 0)) (by (with_reducible repeat (first | refine blk_drewN ?_ _ | refine blk_drew ?_ | refine blk_alloc ?_ _)); exact BK109.out) hb)
                      have n3_ := Aside0.mk (C_below_at_ HR120.out (by repeat (first | (with_reducible exact HR120.out) | (with_reducible refine Kd.C_alloc ?_ _) | (with_reducible refine Kd.C_drewN ?_ _) | (with_reducible refine Kd.C_drew ?_) | exact HR120.out)) hb)
                      have n4_ := Aside0.mk (below_step (by repeat (first | (with_reducible first | exact HB.out | apply below_alloc | apply pw_below_drewN | apply below_drew1 | refine below_set ?_ GE109.out) | exact HB.out)) hb)
                      clear HO114
                      clear BK109
                      clear HR120
                      clear HB
                      have HO114 := n0_
                      have HO123 := n1_
                      have BK109 := n2_
                      have HR120 := n3_
                      have HB := n4_
                      clear n0_ n1_ n2_ n3_ n4_
                      (try clear hb)
                      (try clear hb2)
                      (try clear hk)
                      (try clear hi)
                      (try clear ho0)
                      obtain ⟨Ao43, co43, eo43⟩ := Kd.R_slice HO123.out
                      (first | subst eo43 | (injection eo43 with f1_ f2_ f3_; have f4_ := f1_.symm; have f5_ := f3_.symm; clear f1_ f2_ f3_; subst f4_; subst f5_))
                      have n_ := Aside0.mk (Kd.R_mono (ok' := (fun k_ => some k_ ≠ (.slice Ao43 t121.length co43 : Value).ownBlock)) HO114.out (fun k_ hk => hk.2))
                      clear HO114
                      have HO114 := n_
                      clear n_
                      refine hK.out _ _ trivial (fun hHeld => ?_)
                      clear hK K
                      refine norm_ (a' := ?_) ?_ ?_
                      rotate_left
                      · show Act.put _ (some 32) _ = _
                        simp only [Act.put, List.setIfInBounds_toArray, List.set_cons_zero, List.set_cons_succ, i64_w, i32_w]
                        rfl
                      refine one_ (i := 5) (N := some 33) #[true, true, true, true, true, true] rfl rfl (by kernel_rfl) (by decide) (fun K hK => ?_)
                      refine copyin_step_ (enc := (fun z_ => Value.int .u8 z_)) (lo := 2) (w0 := w) w.heap.size (by rfl) (.tmp 29) (.tmp 32) 22 22 5 rfl Try.underlying22 (by kernel_rfl) (A0 := (some ⟨go9, 0, none⟩)) (n := y112.length) (c := co9) (xs := y116) (ys := t121) rfl rfl ?hA ?hm ?hl (by (with_reducible repeat (first | apply Kd.R_alloc | apply Kd.R_drewN | apply Kd.R_drew)); exact HO114.out) ?hR (by repeat (first | (with_reducible first | exact HB.out | apply below_alloc | apply pw_below_drewN | apply below_drew1 | refine below_set ?_ GE109.out) | exact HB.out)) (below_size (by repeat (first | (with_reducible first | exact HB.out | apply below_alloc | apply pw_below_drewN | apply below_drew1 | refine below_set ?_ GE109.out) | exact HB.out))) ?_
                      (case hA => exact KA39.out)
                      (case hm => have ha_ := KY39.out; omega)
                      (case hl => have ha_ := KL39.out; have hb_ := (Kd.R_reads' HO114.out).1; omega)
                      (case hR => repeat (first | exact (Kd.R_reads' HO123.out).2.2 | (with_reducible refine Kd.C_alloc ?_ _) | (with_reducible refine Kd.C_drewN ?_ _) | (with_reducible refine Kd.C_drew ?_)))
                      intro w41 ho hb hg
                      rw [← Ny124.out] at ho
                      have n0_ := Aside0.mk (blk_grown (g := gb109) (o := .cells #[.int .i64 a1_0, .int .i64 a1_1, .int .i64 a1_2, .slice A1_3 l1_3.length c1_3, .int .i64 a1_4] 24 (0, 0)) (by (with_reducible repeat (first | refine blk_drewN ?_ _ | refine blk_drew ?_ | refine blk_alloc ?_ _)); exact BK109.out) hg (Kd.R_ne HO114.out BK109.out (by decide)))
                      have n1_ := Aside0.mk (ho)
                      have n2_ := Aside0.mk (Kd.R_after (v := (.slice (some ⟨go9, 0, none⟩) y112.length co9)) (v1 := .slice (some ⟨go9, 0, none⟩) y112.length co9) (ok := (fun _ => True)) (by (with_reducible repeat (first | apply Kd.R_alloc | apply Kd.R_drewN | apply Kd.R_drew)); exact HO123.out) hg (.inl rfl))
                      have n3_ := Aside0.mk (hb)
                      clear BK109
                      clear HO114
                      clear HO123
                      clear HB
                      have BK109 := n0_
                      have HO114 := n1_
                      have HO123 := n2_
                      have HB := n3_
                      clear n0_ n1_ n2_ n3_
                      clear ho hb hg
                      refine hK.out _ _ trivial (fun hHeld => ?_)
                      clear hK K
                      refine norm_ (a' := ?_) ?_ ?_
                      rotate_left
                      · show Act.put _ (some 33) _ = _
                        simp only [Act.put, List.setIfInBounds_toArray, List.set_cons_zero, List.set_cons_succ, i64_w, i32_w]
                        rfl
                      refine done_ (by kernel_rfl) ?_
                      try go_wp2
                      have n0_ := Aside0.mk (Kd.R_drew HO114.out)
                      have n1_ := Aside0.mk (Kd.R_drew HO123.out)
                      have n2_ := Aside0.mk (blk_drew BK109.out)
                      have n3_ := Aside0.mk (below_drew1 HB.out)
                      clear HO114
                      clear HO123
                      clear BK109
                      clear HB
                      have HO114 := n0_
                      have HO123 := n1_
                      have BK109 := n2_
                      have HB := n3_
                      clear n0_ n1_ n2_ n3_
                      have hlx45 := (Kd.R_reads' HO114.out).1
                      have q45 : (10 : Int) ≤ ((y112.length : Int) : Int) := of_decide_eq_true (by first | (with_reducible assumption) | assumption)
                      obtain ⟨i045, hi045, _, hsz45, _⟩ := info_parts info5
                      have hroom45 : y112.length ≤ co9 := (Kd.R_reads' HO114.out).2.1
                      have hroomc45 : y124.length ≤ co9 := (by rw [← hlx45]; exact hroom45)
                      have hC45 : Kd.C (Kd.int .u8) _ (some ⟨go9, 0, none⟩) y124.length y124 := (Kd.R_reads' HO114.out).2.2
                      have hcut45 := cut_from (P := Try.prog) 22 5 .i64 Try.underlying22 hi045 1 hsz45 (some ⟨go9, 0, none⟩) y112.length co9 10 (by omega) q45
                      have hr45 := Kd.C_drop (m := (10 : Int).toNat) (c := co9) hC45 (by omega) hroomc45
                      obtain ⟨A45, hA45⟩ : ∃ A1, A1 = (if co9 = (10 : Int).toNat then (some ⟨go9, 0, none⟩) else ((some ⟨go9, 0, none⟩) : Option Addr).map (·.add ((10 : Int).toNat * 1))) := ⟨_, rfl⟩
                      obtain ⟨c45, hc45⟩ : ∃ c1, c1 = co9 - (10 : Int).toNat := ⟨_, rfl⟩
                      have hy45 : y127.length = y112.length - (10 : Int).toNat := (by rw [Ny127.out, List.length_drop] <;> omega)
                      rw [show (y124).drop (10 : Int).toNat = y127 from Ny127.out.symm] at hr45
                      replace hr45 : Kd.C (Kd.int .u8) _ A45 y127.length y127 := (by rw [hA45]; exact hr45)
                      rw [← hy45, ← hA45, ← hc45] at hcut45
                      have HR130 := Aside0.mk hr45
                      have HC130 := Aside0.mk (show y127.length ≤ c45 from by rw [hy45, hc45]; exact Nat.sub_le_sub_right hroom45 _)
                      clear hr45 hC45 hroom45 hi045 hsz45 hc45 hroomc45
                      have KY45 := Aside0.mk hy45
                      have KA45 := Aside0.mk hA45
                      clear hy45 hA45
                      have KE45 := Aside0.mk hlx45
                      have KL45 := Aside0.mk (show 10 ≤ y124.length from by omega)
                      clear hlx45
                      replace q45 := eq_true q45
                      refine start_ (n := 10) (S := fun w' => w'.cell? ⟨gb109, 0, none⟩ = some (.int .i64 a1_0) ∧ w'.cell? ⟨gb109, 1, none⟩ = some (.int .i64 a1_1) ∧ w'.cell? ⟨gb109, 2, none⟩ = some (.int .i64 a1_2) ∧ w'.cell? ⟨gb109, 3, none⟩ = some (.slice A1_3 l1_3.length c1_3) ∧ w'.cell? ⟨gb109, 4, none⟩ = some (.int .i64 a1_4)) (ds := []) #[false, false, false, false, false, false, false, false, false, false] (by kernel_rfl) rfl rfl ⟨(blk_cell BK109.out 0).trans rfl, (blk_cell BK109.out 1).trans rfl, (blk_cell BK109.out 2).trans rfl, (blk_cell BK109.out 3).trans rfl, (blk_cell BK109.out 4).trans rfl⟩ (fun hHeld => ?_); refine with_tabW record_Bytes.tab9 record_Bytes.bits9 (fun HT_ HW_ => ?_)
                      generalize w41.drew = w44 at HO114 HO123 BK109 HB HR130 hHeld ⊢
                      refine pure_ (i := 0) (N := some 34) (v := ?_) (a' := ?_) #[true, false, false, false, false, false, false, false, false, false] rfl rfl (any_of HT_.out (by kernel_rfl)) (fun _ _ _ h => h) (Or.inl ⟨by rfl, ?_⟩) ?_ ?_
                      rotate_left
                      · intro w'
                        go_simp
                        with_reducible rfl
                      rotate_left
                      · simp only [Act.put, List.setIfInBounds_toArray, List.set_cons_zero, List.set_cons_succ, i64_w, i32_w]
                        rfl
                      refine pure_ (i := 1) (N := some 35) (v := ?_) (a' := ?_) #[true, true, false, false, false, false, false, false, false, false] rfl rfl (any_of HT_.out (by kernel_rfl)) (fun _ _ _ h => h) (Or.inl ⟨by rfl, ?_⟩) ?_ ?_
                      rotate_left
                      · intro w'
                        go_simp
                        with_reducible rfl
                      rotate_left
                      · simp only [Act.put, List.setIfInBounds_toArray, List.set_cons_zero, List.set_cons_succ, i64_w, i32_w]
                        rfl
                      refine pure_ (i := 2) (N := some 36) (v := ?_) (a' := ?_) #[true, true, true, false, false, false, false, false, false, false] rfl rfl (any_of HT_.out (by kernel_rfl)) (fun _ _ _ h => h) (Or.inl ⟨by rfl, ?_⟩) ?_ ?_
                      rotate_left
                      · intro w'
                        go_simp
                        with_reducible rfl
                      rotate_left
                      · simp only [Act.put, List.setIfInBounds_toArray, List.set_cons_zero, List.set_cons_succ, i64_w, i32_w]
                        rfl
                      refine pure_ (i := 4) (N := some 38) (v := ?_) (a' := ?_) #[true, true, true, false, true, false, false, false, false, false] rfl rfl (any_of HT_.out (by kernel_rfl)) (fun _ _ _ h => h) (Or.inl ⟨by rfl, ?_⟩) ?_ ?_
                      rotate_left
                      · intro w'
                        go_simp
                        with_reducible rfl
                      rotate_left
                      · simp only [Act.put, List.setIfInBounds_toArray, List.set_cons_zero, List.set_cons_succ, i64_w, i32_w]
                        rfl
                      refine take_ (i := 3) (N := some 37) (v := ?_) (a' := ?_) #[true, true, true, true, true, false, false, false, false, false] rfl rfl (take_ofW HT_.out HW_.out (by kernel_rfl)) (fun _ _ _ h => h) (Or.inl ⟨by rfl, ?_⟩) hHeld ?_ ?_
                      rotate_left
                      · rintro w' ⟨s0, s1, s2, s3, s4⟩
                        go_simp
                        with_reducible rfl
                      rotate_left
                      · simp only [Act.put, List.setIfInBounds_toArray, List.set_cons_zero, List.set_cons_succ, i64_w, i32_w]
                        rfl
                      refine take_ (i := 5) (N := some 39) (v := ?_) (a' := ?_) #[true, true, true, true, true, true, false, false, false, false] rfl rfl (take_ofW HT_.out HW_.out (by kernel_rfl)) (fun _ _ _ h => h) (Or.inl ⟨by rfl, ?_⟩) hHeld ?_ ?_
                      rotate_left
                      · rintro w' ⟨s0, s1, s2, s3, s4⟩
                        go_simp
                        with_reducible rfl
                      rotate_left
                      · simp only [Act.put, List.setIfInBounds_toArray, List.set_cons_zero, List.set_cons_succ, i64_w, i32_w]
                        rfl
                      refine pure_ (i := 6) (N := some 40) (v := ?_) (a' := ?_) #[true, true, true, true, true, true, true, false, false, false] rfl rfl (any_of HT_.out (by kernel_rfl)) (fun _ _ _ h => h) (Or.inl ⟨by rfl, ?_⟩) ?_ ?_
                      rotate_left
                      · intro w'
                        go_simp
                        with_reducible rfl
                      rotate_left
                      · simp only [Act.put, List.setIfInBounds_toArray, List.set_cons_zero, List.set_cons_succ, i64_w, i32_w]
                        rfl
                      refine pure_ (i := 7) (N := some 41) (v := ?_) (a' := ?_) #[true, true, true, true, true, true, true, true, false, false] rfl rfl (any_of HT_.out (by kernel_rfl)) (fun _ _ _ h => h) (Or.inl ⟨by rfl, ?_⟩) ?_ ?_
                      rotate_left
                      · intro w'
                        go_simp
                        with_reducible rfl
                      rotate_left
                      · simp only [Act.put, List.setIfInBounds_toArray, List.set_cons_zero, List.set_cons_succ, i64_w, i32_w]
                        rfl
                      refine one_ (i := 8) (N := some 42) #[true, true, true, true, true, true, true, true, true, false] rfl rfl (one_of HT_.out (by kernel_rfl)) (by decide) (fun K hK => ?_)
                      refine goes_ Try.func23 (by kernel_rfl) rfl #[.int .i64 4, .int .u64 (IntKind.u64.wrap (ji15))] (by rfl) rfl rfl (by (try simp only [List.map_toArray, List.map_cons, List.map_nil]); first | done | (simp only [hji15]; rfl) | rfl | (simp only [List.length_drop, List.length_take]; rfl)) ?_
                      with_reducible refine (word_Num.calls k 4 (IntKind.u64.wrap (ji15)) t131 _ A16.out).mono ?_
                      rintro e w46 ⟨v132, rfl, ho0, hb⟩
                      refine ⟨_, rfl, ?_⟩
                      have n0_ := Aside0.mk (Kd.R_elder' (by (with_reducible repeat (first | apply Kd.R_alloc | apply Kd.R_drewN | apply Kd.R_drew)); exact HO114.out) (Kd.R_base ho0) hb)
                      have n1_ := Aside0.mk (Kd.R_elder' (by (with_reducible repeat (first | apply Kd.R_alloc | apply Kd.R_drewN | apply Kd.R_drew)); exact HO123.out) (Kd.R_base ho0) hb)
                      have n2_ := Aside0.mk (Kd.R_lower (Kd.R_new' (Kd.R_new' ho0 (Kd.R_lt (by (with_reducible repeat (first | apply Kd.R_alloc | apply Kd.R_drewN | apply Kd.R_drew)); exact HO114.out))) (Kd.R_lt (by (with_reducible repeat (first | apply Kd.R_alloc | apply Kd.R_drewN | apply Kd.R_drew)); exact HO123.out))) (below_size (by repeat (first | (with_reducible first | exact HB.out | apply below_alloc | apply pw_below_drewN | apply below_drew1 | refine below_set ?_ GE109.out) | exact HB.out))))
                      have n3_ := Aside0.mk (blk_below (g := gb109) (o := .cells #[.int .i64 a1_0, .int .i64 a1_1, .int .i64 a1_2, .slice A1_3 l1_3.length c1_3, .int .i64 a1_4] 24 (0, 0)) (by (with_reducible repeat (first | refine blk_drewN ?_ _ | refine blk_drew ?_ | refine blk_alloc ?_ _)); exact BK109.out) hb)
                      have n4_ := Aside0.mk (C_below_at_ HR130.out (by repeat (first | (with_reducible exact HR130.out) | (with_reducible refine Kd.C_alloc ?_ _) | (with_reducible refine Kd.C_drewN ?_ _) | (with_reducible refine Kd.C_drew ?_) | exact HR130.out)) hb)
                      have n5_ := Aside0.mk (below_step (by repeat (first | (with_reducible first | exact HB.out | apply below_alloc | apply pw_below_drewN | apply below_drew1 | refine below_set ?_ GE109.out) | exact HB.out)) hb)
                      clear HO114
                      clear HO123
                      clear BK109
                      clear HR130
                      clear HB
                      have HO114 := n0_
                      have HO123 := n1_
                      have HO133 := n2_
                      have BK109 := n3_
                      have HR130 := n4_
                      have HB := n5_
                      clear n0_ n1_ n2_ n3_ n4_ n5_
                      (try clear hb)
                      (try clear hb2)
                      (try clear hk)
                      (try clear hi)
                      (try clear ho0)
                      obtain ⟨Ao49, co49, eo49⟩ := Kd.R_slice HO133.out
                      (first | subst eo49 | (injection eo49 with f1_ f2_ f3_; have f4_ := f1_.symm; have f5_ := f3_.symm; clear f1_ f2_ f3_; subst f4_; subst f5_))
                      refine hK.out _ _ ⟨(blk_cell BK109.out 0).trans rfl, (blk_cell BK109.out 1).trans rfl, (blk_cell BK109.out 2).trans rfl, (blk_cell BK109.out 3).trans rfl, (blk_cell BK109.out 4).trans rfl⟩ (fun hHeld => ?_)
                      clear hK K
                      refine norm_ (a' := ?_) ?_ ?_
                      rotate_left
                      · show Act.put _ (some 42) _ = _
                        simp only [Act.put, List.setIfInBounds_toArray, List.set_cons_zero, List.set_cons_succ, i64_w, i32_w]
                        rfl
                      refine one_ (i := 9) (N := some 43) #[true, true, true, true, true, true, true, true, true, true] rfl rfl (one_of HT_.out (by kernel_rfl)) (by decide) (fun K hK => ?_)
                      refine copyin_step_ (enc := (fun z_ => Value.int .u8 z_)) (lo := 10) (w0 := w) w.heap.size (by rfl) (.tmp 35) (.tmp 42) 22 22 5 rfl Try.underlying22 (by kernel_rfl) (A0 := (some ⟨go9, 0, none⟩)) (n := y112.length) (c := co9) (xs := y124) (ys := t131) rfl rfl ?hA ?hm ?hl (by (with_reducible repeat (first | apply Kd.R_alloc | apply Kd.R_drewN | apply Kd.R_drew)); exact HO114.out) ?hR (by repeat (first | (with_reducible first | exact HB.out | apply below_alloc | apply pw_below_drewN | apply below_drew1 | refine below_set ?_ GE109.out) | exact HB.out)) (below_size (by repeat (first | (with_reducible first | exact HB.out | apply below_alloc | apply pw_below_drewN | apply below_drew1 | refine below_set ?_ GE109.out) | exact HB.out))) ?_
                      (case hA => exact KA45.out)
                      (case hm => have ha_ := KY45.out; omega)
                      (case hl => have ha_ := KL45.out; have hb_ := (Kd.R_reads' HO114.out).1; omega)
                      (case hR => repeat (first | exact (Kd.R_reads' HO133.out).2.2 | (with_reducible refine Kd.C_alloc ?_ _) | (with_reducible refine Kd.C_drewN ?_ _) | (with_reducible refine Kd.C_drew ?_)))
                      intro w47 ho hb hg
                      rw [← Ny134.out] at ho
                      have n0_ := Aside0.mk (blk_grown (g := gb109) (o := .cells #[.int .i64 a1_0, .int .i64 a1_1, .int .i64 a1_2, .slice A1_3 l1_3.length c1_3, .int .i64 a1_4] 24 (0, 0)) (by (with_reducible repeat (first | refine blk_drewN ?_ _ | refine blk_drew ?_ | refine blk_alloc ?_ _)); exact BK109.out) hg (Kd.R_ne HO114.out BK109.out (by decide)))
                      have n1_ := Aside0.mk (ho)
                      have n2_ := Aside0.mk (Kd.R_after (v := (.slice (some ⟨go9, 0, none⟩) y112.length co9)) (v1 := .slice (some ⟨go9, 0, none⟩) y112.length co9) (ok := (fun k_ => some k_ ≠ (.slice Ao49 t131.length co49 : Value).ownBlock)) (by (with_reducible repeat (first | apply Kd.R_alloc | apply Kd.R_drewN | apply Kd.R_drew)); exact Kd.R_mono HO123.out (fun _ hk => ⟨hk.2, hk.1.2⟩)) hg (.inl rfl))
                      have n3_ := Aside0.mk (Kd.R_after (v := (.slice (some ⟨go9, 0, none⟩) y112.length co9)) (v1 := .slice (some ⟨go9, 0, none⟩) y112.length co9) (ok := (fun k_ => some k_ ≠ (.slice Ao43 t121.length co43 : Value).ownBlock)) (by (with_reducible repeat (first | apply Kd.R_alloc | apply Kd.R_drewN | apply Kd.R_drew)); exact Kd.R_mono HO133.out (fun _ hk => ⟨hk.2, hk.1.2⟩)) hg (.inl rfl))
                      have n4_ := Aside0.mk (hb)
                      clear BK109
                      clear HO114
                      clear HO123
                      clear HO133
                      clear HB
                      have BK109 := n0_
                      have HO114 := n1_
                      have HO123 := n2_
                      have HO133 := n3_
                      have HB := n4_
                      clear n0_ n1_ n2_ n3_ n4_
                      clear ho hb hg
                      refine hK.out _ _ ⟨(blk_cell BK109.out 0).trans rfl, (blk_cell BK109.out 1).trans rfl, (blk_cell BK109.out 2).trans rfl, (blk_cell BK109.out 3).trans rfl, (blk_cell BK109.out 4).trans rfl⟩ (fun hHeld => ?_)
                      clear hK K
                      refine norm_ (a' := ?_) ?_ ?_
                      rotate_left
                      · show Act.put _ (some 43) _ = _
                        simp only [Act.put, List.setIfInBounds_toArray, List.set_cons_zero, List.set_cons_succ, i64_w, i32_w]
                        rfl
                      refine done_ (done_of HT_.out (by kernel_rfl)) ?_
                      have hcz50_0 : w47.cell? ⟨gb109, 0, none⟩ = some (.int .i64 a1_0) := (blk_cell BK109.out 0).trans rfl
                      have hcz50_1 : w47.cell? ⟨gb109, 1, none⟩ = some (.int .i64 a1_1) := (blk_cell BK109.out 1).trans rfl
                      have hcz50_2 : w47.cell? ⟨gb109, 2, none⟩ = some (.int .i64 a1_2) := (blk_cell BK109.out 2).trans rfl
                      have hcz50_3 : w47.cell? ⟨gb109, 3, none⟩ = some (.slice A1_3 l1_3.length c1_3) := (blk_cell BK109.out 3).trans rfl
                      have hcz50_4 : w47.cell? ⟨gb109, 4, none⟩ = some (.int .i64 a1_4) := (blk_cell BK109.out 4).trans rfl
                      have hfz50_0 := blk_frozen BK109.out 0
                      have hfz50_1 := blk_frozen BK109.out 1
                      have hfz50_2 := blk_frozen BK109.out 2
                      have hfz50_3 := blk_frozen BK109.out 3
                      have hfz50_4 := blk_frozen BK109.out 4
                      have p18 : 0 ≤ (14 : Int) := (by omega)
                      have q18 : (14 : Int) < ((y112.length : Int) : Int) := of_decide_eq_true (by first | (with_reducible assumption) | assumption)
                      have qi18 : (14 < y112.length) = True := eq_true (by omega)
                      obtain ⟨hx18_0, hf18_0⟩ := Kd.R_celln 0 HO114.out (14 : Int) p18 q18
                      (try rw [show ((14 : Int)).toNat = 14 from rfl] at hx18_0)
                      (try simp only [Nat.reduceMul, Nat.zero_mul, Nat.zero_add, Nat.reduceAdd] at hx18_0)
                      (try rw [show ((14 : Int)).toNat = 14 from rfl] at hf18_0)
                      (try simp only [Nat.reduceMul, Nat.zero_mul, Nat.zero_add, Nat.reduceAdd] at hf18_0)
                      replace p18 := eq_true p18
                      replace q18 := eq_true q18
                      obtain ⟨hy51_, hz51_⟩ := Kd.R_celln 0 HO114.out (14 : Int) (by omega) (of_decide_eq_true (by first | (with_reducible assumption) | assumption))
                      (try simp only [Int.reduceToNat, Int.toNat_zero, Int.toNat_ofNat, Nat.reduceMul, Nat.zero_mul, Nat.zero_add] at hy51_ hz51_)
                      (try rw [show ((14 : Int)).toNat = 14 from rfl] at hy51_)
                      (try rw [show ((14 : Int)).toNat = 14 from rfl] at hz51_)
                      have HP51 := Kd.R_putg HO114.out (14 : Int) ((a1_2) % 256)
                      try go_wp2_with (first | ((with_reducible refine gate_store (t := 5) (p := 48) rfl ?_); refine store_event (t := 5) (p := 48) (v := ?vo_w52) (w1 := (w47.setCell ⟨go9, (14 : Int).toNat, none⟩ (.int .u8 ((a1_2) % 256)))) ?hg ?ho ?hn ?hr ?_; (case ho => rfl); (case hg => rfl); (case hn => rfl); (case hr => first | (go_simp; done) | (go_simp; rfl)); intro w52 hw; have hg : w47.grownBy w52 (some go9) := (by rw [hw]; exact HP51.2); have hp_ : Kd.R (Kd.int .u8) 5 w52 w.heap.size (fun k_ => some k_ ≠ (.slice Ao43 t121.length co43 : Value).ownBlock ∧ some k_ ≠ (.slice Ao49 t131.length co49 : Value).ownBlock) (.slice (some ⟨go9, 0, none⟩) y112.length co9) y137 := (by rw [hw, Ny137.out]; exact HP51.1); clear HP51; have n0_ := Aside0.mk (blk_grown (g := gb109) (o := .cells #[.int .i64 a1_0, .int .i64 a1_1, .int .i64 a1_2, .slice A1_3 l1_3.length c1_3, .int .i64 a1_4] 24 (0, 0)) (by (with_reducible repeat (first | refine blk_drewN ?_ _ | refine blk_drew ?_ | refine blk_alloc ?_ _)); exact BK109.out) hg (Kd.R_ne HO114.out BK109.out (by decide))); have n1_ := Aside0.mk (hp_); have n2_ := Aside0.mk (Kd.R_after (v := (.slice (some ⟨go9, 0, none⟩) y112.length co9)) (v1 := (.slice (some ⟨go9, 0, none⟩) y112.length co9)) (ok := (fun k_ => some k_ ≠ (.slice Ao49 t131.length co49 : Value).ownBlock)) (by (with_reducible repeat (first | apply Kd.R_alloc | apply Kd.R_drewN | apply Kd.R_drew)); exact HO123.out) hg (.inl rfl)); have n3_ := Aside0.mk (Kd.R_after (v := (.slice (some ⟨go9, 0, none⟩) y112.length co9)) (v1 := (.slice (some ⟨go9, 0, none⟩) y112.length co9)) (ok := (fun k_ => some k_ ≠ (.slice Ao43 t121.length co43 : Value).ownBlock)) (by (with_reducible repeat (first | apply Kd.R_alloc | apply Kd.R_drewN | apply Kd.R_drew)); exact HO133.out) hg (.inl rfl)); have n4_ := Aside0.mk ((by rw [hw]; exact below_set (HB.out) GB9.out : Below w.heap.size w w52)); clear BK109; clear HO114; clear HO123; clear HO133; clear HB; have BK109 := n0_; have HO114 := n1_; have HO123 := n2_; have HO133 := n3_; have HB := n4_; clear n0_ n1_ n2_ n3_ n4_; clear hg hw hp_))
                      have n0_ := Aside0.mk (Kd.R_drew HO114.out)
                      have n1_ := Aside0.mk (Kd.R_drew HO123.out)
                      have n2_ := Aside0.mk (Kd.R_drew HO133.out)
                      have n3_ := Aside0.mk (blk_drew BK109.out)
                      have n4_ := Aside0.mk (below_drew1 HB.out)
                      clear HO114
                      clear HO123
                      clear HO133
                      clear BK109
                      clear HB
                      have HO114 := n0_
                      have HO123 := n1_
                      have HO133 := n2_
                      have BK109 := n3_
                      have HB := n4_
                      clear n0_ n1_ n2_ n3_ n4_
                      have hlx54 := (Kd.R_reads' HO114.out).1
                      have q54 : (16 : Int) ≤ ((y112.length : Int) : Int) := of_decide_eq_true (by first | (with_reducible assumption) | assumption)
                      obtain ⟨i054, hi054, _, hsz54, _⟩ := info_parts info5
                      have hroom54 : y112.length ≤ co9 := (Kd.R_reads' HO114.out).2.1
                      have hroomc54 : y137.length ≤ co9 := (by rw [← hlx54]; exact hroom54)
                      have hC54 : Kd.C (Kd.int .u8) _ (some ⟨go9, 0, none⟩) y137.length y137 := (Kd.R_reads' HO114.out).2.2
                      have hcut54 := cut_from (P := Try.prog) 22 5 .i64 Try.underlying22 hi054 1 hsz54 (some ⟨go9, 0, none⟩) y112.length co9 16 (by omega) q54
                      have hr54 := Kd.C_drop (m := (16 : Int).toNat) (c := co9) hC54 (by omega) hroomc54
                      obtain ⟨A54, hA54⟩ : ∃ A1, A1 = (if co9 = (16 : Int).toNat then (some ⟨go9, 0, none⟩) else ((some ⟨go9, 0, none⟩) : Option Addr).map (·.add ((16 : Int).toNat * 1))) := ⟨_, rfl⟩
                      obtain ⟨c54, hc54⟩ : ∃ c1, c1 = co9 - (16 : Int).toNat := ⟨_, rfl⟩
                      have hy54 : y138.length = y112.length - (16 : Int).toNat := (by rw [Ny138.out, List.length_drop] <;> omega)
                      rw [show (y137).drop (16 : Int).toNat = y138 from Ny138.out.symm] at hr54
                      replace hr54 : Kd.C (Kd.int .u8) _ A54 y138.length y138 := (by rw [hA54]; exact hr54)
                      rw [← hy54, ← hA54, ← hc54] at hcut54
                      have HR141 := Aside0.mk hr54
                      have HC141 := Aside0.mk (show y138.length ≤ c54 from by rw [hy54, hc54]; exact Nat.sub_le_sub_right hroom54 _)
                      clear hr54 hC54 hroom54 hi054 hsz54 hc54 hroomc54
                      have KY54 := Aside0.mk hy54
                      have KA54 := Aside0.mk hA54
                      clear hy54 hA54
                      have KE54 := Aside0.mk hlx54
                      have KL54 := Aside0.mk (show 16 ≤ y137.length from by omega)
                      clear hlx54
                      replace q54 := eq_true q54
                      refine start_ (n := 5) (S := fun w' => w'.cell? ⟨gb109, 0, none⟩ = some (.int .i64 a1_0) ∧ w'.cell? ⟨gb109, 1, none⟩ = some (.int .i64 a1_1) ∧ w'.cell? ⟨gb109, 2, none⟩ = some (.int .i64 a1_2) ∧ w'.cell? ⟨gb109, 3, none⟩ = some (.slice A1_3 l1_3.length c1_3) ∧ w'.cell? ⟨gb109, 4, none⟩ = some (.int .i64 a1_4)) (ds := []) #[false, false, false, false, false] (by kernel_rfl) rfl rfl ⟨(blk_cell BK109.out 0).trans rfl, (blk_cell BK109.out 1).trans rfl, (blk_cell BK109.out 2).trans rfl, (blk_cell BK109.out 3).trans rfl, (blk_cell BK109.out 4).trans rfl⟩ (fun hHeld => ?_)
                      generalize w52.drew = w53 at HO114 HO123 HO133 BK109 HB HR141 hHeld ⊢
                      refine pure_ (i := 0) (N := some 49) (v := ?_) (a' := ?_) #[true, false, false, false, false] rfl rfl (by kernel_rfl) (fun _ _ _ h => h) (Or.inl ⟨by rfl, ?_⟩) ?_ ?_
                      rotate_left
                      · intro w'
                        go_simp
                        with_reducible rfl
                      rotate_left
                      · simp only [Act.put, List.setIfInBounds_toArray, List.set_cons_zero, List.set_cons_succ, i64_w, i32_w]
                        rfl
                      refine pure_ (i := 1) (N := some 50) (v := ?_) (a' := ?_) #[true, true, false, false, false] rfl rfl (by kernel_rfl) (fun _ _ _ h => h) (Or.inl ⟨by rfl, ?_⟩) ?_ ?_
                      rotate_left
                      · intro w'
                        go_simp
                        with_reducible rfl
                      rotate_left
                      · simp only [Act.put, List.setIfInBounds_toArray, List.set_cons_zero, List.set_cons_succ, i64_w, i32_w]
                        rfl
                      refine pure_ (i := 2) (N := some 51) (v := ?_) (a' := ?_) #[true, true, true, false, false] rfl rfl (by kernel_rfl) (fun _ _ _ h => h) (Or.inl ⟨by rfl, ?_⟩) ?_ ?_
                      rotate_left
                      · intro w'
                        go_simp
                        with_reducible rfl
                      rotate_left
                      · simp only [Act.put, List.setIfInBounds_toArray, List.set_cons_zero, List.set_cons_succ, i64_w, i32_w]
                        rfl
                      refine take_ (i := 3) (N := some 52) (v := ?_) (a' := ?_) #[true, true, true, true, false] rfl rfl (by kernel_rfl) (fun _ _ _ h => h) (Or.inl ⟨by rfl, ?_⟩) hHeld ?_ ?_
                      rotate_left
                      · rintro w' ⟨s0, s1, s2, s3, s4⟩
                        go_simp
                        with_reducible rfl
                      rotate_left
                      · simp only [Act.put, List.setIfInBounds_toArray, List.set_cons_zero, List.set_cons_succ, i64_w, i32_w]
                        rfl
                      refine one_ (i := 4) (N := some 53) #[true, true, true, true, true] rfl rfl (by kernel_rfl) (by decide) (fun K hK => ?_)
                      refine copyin_step_ (enc := (fun z_ => Value.int .u8 z_)) (lo := 16) (w0 := w) w.heap.size (by rfl) (.tmp 50) (.tmp 52) 22 22 5 rfl Try.underlying22 (by kernel_rfl) (A0 := (some ⟨go9, 0, none⟩)) (n := y112.length) (c := co9) (xs := y137) (ys := l1_3) rfl rfl ?hA ?hm ?hl (by (with_reducible repeat (first | apply Kd.R_alloc | apply Kd.R_drewN | apply Kd.R_drew)); exact HO114.out) ?hR (by repeat (first | (with_reducible first | exact HB.out | apply below_alloc | apply pw_below_drewN | apply below_drew1 | refine below_set ?_ GE109.out) | exact HB.out)) (below_size (by repeat (first | (with_reducible first | exact HB.out | apply below_alloc | apply pw_below_drewN | apply below_drew1 | refine below_set ?_ GE109.out) | exact HB.out))) ?_
                      (case hA => exact KA54.out)
                      (case hm => have ha_ := KY54.out; omega)
                      (case hl => have ha_ := KL54.out; have hb_ := (Kd.R_reads' HO114.out).1; omega)
                      (case hR => repeat (first | exact (Kd.C_below HR1_3.out HB.out) | (with_reducible refine Kd.C_alloc ?_ _) | (with_reducible refine Kd.C_drewN ?_ _) | (with_reducible refine Kd.C_drew ?_)))
                      intro w55 ho hb hg
                      rw [← Ny142.out] at ho
                      have n0_ := Aside0.mk (blk_grown (g := gb109) (o := .cells #[.int .i64 a1_0, .int .i64 a1_1, .int .i64 a1_2, .slice A1_3 l1_3.length c1_3, .int .i64 a1_4] 24 (0, 0)) (by (with_reducible repeat (first | refine blk_drewN ?_ _ | refine blk_drew ?_ | refine blk_alloc ?_ _)); exact BK109.out) hg (Kd.R_ne HO114.out BK109.out (by decide)))
                      have n1_ := Aside0.mk (ho)
                      have n2_ := Aside0.mk (Kd.R_after (v := (.slice (some ⟨go9, 0, none⟩) y112.length co9)) (v1 := .slice (some ⟨go9, 0, none⟩) y112.length co9) (ok := (fun k_ => some k_ ≠ (.slice Ao49 t131.length co49 : Value).ownBlock)) (by (with_reducible repeat (first | apply Kd.R_alloc | apply Kd.R_drewN | apply Kd.R_drew)); exact HO123.out) hg (.inl rfl))
                      have n3_ := Aside0.mk (Kd.R_after (v := (.slice (some ⟨go9, 0, none⟩) y112.length co9)) (v1 := .slice (some ⟨go9, 0, none⟩) y112.length co9) (ok := (fun k_ => some k_ ≠ (.slice Ao43 t121.length co43 : Value).ownBlock)) (by (with_reducible repeat (first | apply Kd.R_alloc | apply Kd.R_drewN | apply Kd.R_drew)); exact HO133.out) hg (.inl rfl))
                      have n4_ := Aside0.mk (hb)
                      clear BK109
                      clear HO114
                      clear HO123
                      clear HO133
                      clear HB
                      have BK109 := n0_
                      have HO114 := n1_
                      have HO123 := n2_
                      have HO133 := n3_
                      have HB := n4_
                      clear n0_ n1_ n2_ n3_ n4_
                      clear ho hb hg
                      refine hK.out _ _ ⟨(blk_cell BK109.out 0).trans rfl, (blk_cell BK109.out 1).trans rfl, (blk_cell BK109.out 2).trans rfl, (blk_cell BK109.out 3).trans rfl, (blk_cell BK109.out 4).trans rfl⟩ (fun hHeld => ?_)
                      clear hK K
                      refine norm_ (a' := ?_) ?_ ?_
                      rotate_left
                      · show Act.put _ (some 53) _ = _
                        simp only [Act.put, List.setIfInBounds_toArray, List.set_cons_zero, List.set_cons_succ, i64_w, i32_w]
                        rfl
                      refine done_ (by kernel_rfl) ?_
                      try go_wp2
                      have n0_ := Aside0.mk (Kd.R_drew HO114.out)
                      have n1_ := Aside0.mk (Kd.R_drew HO123.out)
                      have n2_ := Aside0.mk (Kd.R_drew HO133.out)
                      have n3_ := Aside0.mk (blk_drew BK109.out)
                      have n4_ := Aside0.mk (below_drew1 HB.out)
                      clear HO114
                      clear HO123
                      clear HO133
                      clear BK109
                      clear HB
                      have HO114 := n0_
                      have HO123 := n1_
                      have HO133 := n2_
                      have BK109 := n3_
                      have HB := n4_
                      clear n0_ n1_ n2_ n3_ n4_
                      have hlx58 := (Kd.R_reads' HO114.out).1
                      have q58 : (60 : Int) ≤ ((y112.length : Int) : Int) := of_decide_eq_true (by first | (with_reducible assumption) | assumption)
                      obtain ⟨i058, hi058, _, hsz58, _⟩ := info_parts info5
                      have hroom58 : y112.length ≤ co9 := (Kd.R_reads' HO114.out).2.1
                      have hroomc58 : y142.length ≤ co9 := (by rw [← hlx58]; exact hroom58)
                      have hC58 : Kd.C (Kd.int .u8) _ (some ⟨go9, 0, none⟩) y142.length y142 := (Kd.R_reads' HO114.out).2.2
                      have hcut58 := cut_from (P := Try.prog) 22 5 .i64 Try.underlying22 hi058 1 hsz58 (some ⟨go9, 0, none⟩) y112.length co9 60 (by omega) q58
                      have hr58 := Kd.C_drop (m := (60 : Int).toNat) (c := co9) hC58 (by omega) hroomc58
                      obtain ⟨A58, hA58⟩ : ∃ A1, A1 = (if co9 = (60 : Int).toNat then (some ⟨go9, 0, none⟩) else ((some ⟨go9, 0, none⟩) : Option Addr).map (·.add ((60 : Int).toNat * 1))) := ⟨_, rfl⟩
                      obtain ⟨c58, hc58⟩ : ∃ c1, c1 = co9 - (60 : Int).toNat := ⟨_, rfl⟩
                      have hy58 : y145.length = y112.length - (60 : Int).toNat := (by rw [Ny145.out, List.length_drop] <;> omega)
                      rw [show (y142).drop (60 : Int).toNat = y145 from Ny145.out.symm] at hr58
                      replace hr58 : Kd.C (Kd.int .u8) _ A58 y145.length y145 := (by rw [hA58]; exact hr58)
                      rw [← hy58, ← hA58, ← hc58] at hcut58
                      have HR148 := Aside0.mk hr58
                      have HC148 := Aside0.mk (show y145.length ≤ c58 from by rw [hy58, hc58]; exact Nat.sub_le_sub_right hroom58 _)
                      clear hr58 hC58 hroom58 hi058 hsz58 hc58 hroomc58
                      have KY58 := Aside0.mk hy58
                      have KA58 := Aside0.mk hA58
                      clear hy58 hA58
                      have KE58 := Aside0.mk hlx58
                      have KL58 := Aside0.mk (show 60 ≤ y142.length from by omega)
                      clear hlx58
                      replace q58 := eq_true q58
                      have hlx59 := (Kd.R_reads' HO114.out).1
                      have q59 : (60 : Int) ≤ ((y112.length : Int) : Int) := of_decide_eq_true (by first | (with_reducible assumption) | assumption)
                      obtain ⟨i059, hi059, _, hsz59, _⟩ := info_parts info5
                      have hroom59 : y112.length ≤ co9 := (Kd.R_reads' HO114.out).2.1
                      have hroomc59 : y142.length ≤ co9 := (by rw [← hlx59]; exact hroom59)
                      have hC59 : Kd.C (Kd.int .u8) _ (some ⟨go9, 0, none⟩) y142.length y142 := (Kd.R_reads' HO114.out).2.2
                      have hcut59 := cut_to (P := Try.prog) 22 5 .i64 Try.underlying22 hi059 (some ⟨go9, 0, none⟩) y112.length co9 60 (by omega) q59 hroom59
                      have hr59 := Kd.C_take (m := 60) hC59 (by omega)
                      have hy59 : y149.length = (60 : Int).toNat := (by rw [Ny149.out, List.length_take]; omega)
                      rw [← Ny149.out] at hr59
                      rw [← hy59] at hcut59
                      have HR152 := Aside0.mk hr59
                      have HC152 := Aside0.mk (show y149.length ≤ co9 from by omega)
                      clear hr59 hC59 hroom59 hi059 hsz59 hroomc59
                      have KY59 := Aside0.mk hy59
                      clear hy59
                      have KE59 := Aside0.mk hlx59
                      have KL59 := Aside0.mk (show 60 ≤ y142.length from by omega)
                      clear hlx59
                      replace q59 := eq_true q59
                      refine start_ (n := 8) (S := fun w' => True) (ds := []) #[false, false, false, false, false, false, false, false] (by kernel_rfl) rfl rfl trivial (fun hHeld => ?_); refine with_tabW record_Bytes.tab12 record_Bytes.bits12 (fun HT_ HW_ => ?_)
                      generalize w55.drew = w57 at HO114 HO123 HO133 BK109 HB HR148 HR152 hHeld ⊢
                      refine pure_ (i := 0) (N := some 54) (v := ?_) (a' := ?_) #[true, false, false, false, false, false, false, false] rfl rfl (any_of HT_.out (by kernel_rfl)) (fun _ _ _ h => h) (Or.inl ⟨by rfl, ?_⟩) ?_ ?_
                      rotate_left
                      · intro w'
                        go_simp
                        with_reducible rfl
                      rotate_left
                      · simp only [Act.put, List.setIfInBounds_toArray, List.set_cons_zero, List.set_cons_succ, i64_w, i32_w]
                        rfl
                      refine pure_ (i := 1) (N := some 55) (v := ?_) (a' := ?_) #[true, true, false, false, false, false, false, false] rfl rfl (any_of HT_.out (by kernel_rfl)) (fun _ _ _ h => h) (Or.inl ⟨by rfl, ?_⟩) ?_ ?_
                      rotate_left
                      · intro w'
                        go_simp
                        with_reducible rfl
                      rotate_left
                      · simp only [Act.put, List.setIfInBounds_toArray, List.set_cons_zero, List.set_cons_succ, i64_w, i32_w]
                        rfl
                      refine pure_ (i := 2) (N := some 56) (v := ?_) (a' := ?_) #[true, true, true, false, false, false, false, false] rfl rfl (any_of HT_.out (by kernel_rfl)) (fun _ _ _ h => h) (Or.inl ⟨by rfl, ?_⟩) ?_ ?_
                      rotate_left
                      · intro w'
                        go_simp
                        with_reducible rfl
                      rotate_left
                      · simp only [Act.put, List.setIfInBounds_toArray, List.set_cons_zero, List.set_cons_succ, i64_w, i32_w]
                        rfl
                      refine pure_ (i := 3) (N := some 57) (v := ?_) (a' := ?_) #[true, true, true, true, false, false, false, false] rfl rfl (any_of HT_.out (by kernel_rfl)) (fun _ _ _ h => h) (Or.inl ⟨by rfl, ?_⟩) ?_ ?_
                      rotate_left
                      · intro w'
                        go_simp
                        with_reducible rfl
                      rotate_left
                      · simp only [Act.put, List.setIfInBounds_toArray, List.set_cons_zero, List.set_cons_succ, i64_w, i32_w]
                        rfl
                      refine one_ (i := 4) (N := some 58) #[true, true, true, true, true, false, false, false] rfl rfl (one_of HT_.out (by kernel_rfl)) (by decide) (fun K hK => ?_)
                      refine goes_ Try.func24 (by kernel_rfl) rfl #[.slice (some ⟨go9, 0, none⟩) y149.length co9] (by rfl) rfl rfl (by (try simp only [List.map_toArray, List.map_cons, List.map_nil]); first | done | rfl | (simp only [List.length_drop, List.length_take]; rfl)) ?_
                      with_reducible refine (word_Sum.calls k _ _ y149 t153 _ ?side1 ?side2 A22.out).mono ?_
                      (case side1 => repeat (first | exact (by repeat (first | (with_reducible exact HR152.out) | (with_reducible refine Kd.C_alloc ?_ _) | (with_reducible refine Kd.C_drewN ?_ _) | (with_reducible refine Kd.C_drew ?_) | exact HR152.out)) | (with_reducible refine Kd.C_alloc ?_ _) | (with_reducible refine Kd.C_drewN ?_ _) | (with_reducible refine Kd.C_drew ?_)))
                      (case side2 => exact HC152.out)
                      rintro e w' ⟨rfl, ⟨nd, rfl⟩⟩
                      refine ⟨_, rfl, ?_⟩
                      refine hK.out _ _ trivial (fun hHeld => ?_)
                      clear hK K
                      refine norm_ (a' := ?_) ?_ ?_
                      rotate_left
                      · show Act.put _ (some 58) _ = _
                        simp only [Act.put, List.setIfInBounds_toArray, List.set_cons_zero, List.set_cons_succ, i64_w, i32_w]
                        rfl
                      refine pure_ (i := 5) (N := some 59) (v := ?_) (a' := ?_) #[true, true, true, true, true, true, false, false] rfl rfl (any_of HT_.out (by kernel_rfl)) (fun _ _ _ h => h) (Or.inl ⟨by rfl, ?_⟩) ?_ ?_
                      rotate_left
                      · intro w'
                        go_simp
                        with_reducible rfl
                      rotate_left
                      · simp only [Act.put, List.setIfInBounds_toArray, List.set_cons_zero, List.set_cons_succ, i64_w, i32_w]
                        rfl
                      refine one_ (i := 6) (N := some 60) #[true, true, true, true, true, true, true, false] rfl rfl (one_of HT_.out (by kernel_rfl)) (by decide) (fun K hK => ?_)
                      refine goes_ Try.func23 (by kernel_rfl) rfl #[.int .i64 4, .int .u64 (IntKind.u64.wrap (t153))] (by rfl) rfl rfl (by (try simp only [List.map_toArray, List.map_cons, List.map_nil]); first | done | rfl | (simp only [List.length_drop, List.length_take]; rfl)) ?_
                      with_reducible refine (word_Num.calls k 4 (IntKind.u64.wrap (t153)) t154 _ A23.out).mono ?_
                      rintro e w60 ⟨v155, rfl, ho0, hb⟩
                      refine ⟨_, rfl, ?_⟩
                      have n0_ := Aside0.mk (Kd.R_elder' (by (with_reducible repeat (first | apply Kd.R_alloc | apply Kd.R_drewN | apply Kd.R_drew)); exact HO114.out) (Kd.R_base ho0) hb)
                      have n1_ := Aside0.mk (Kd.R_elder' (by (with_reducible repeat (first | apply Kd.R_alloc | apply Kd.R_drewN | apply Kd.R_drew)); exact HO123.out) (Kd.R_base ho0) hb)
                      have n2_ := Aside0.mk (Kd.R_elder' (by (with_reducible repeat (first | apply Kd.R_alloc | apply Kd.R_drewN | apply Kd.R_drew)); exact HO133.out) (Kd.R_base ho0) hb)
                      have n3_ := Aside0.mk (Kd.R_lower (Kd.R_new' (Kd.R_new' (Kd.R_new' ho0 (Kd.R_lt (by (with_reducible repeat (first | apply Kd.R_alloc | apply Kd.R_drewN | apply Kd.R_drew)); exact HO114.out))) (Kd.R_lt (by (with_reducible repeat (first | apply Kd.R_alloc | apply Kd.R_drewN | apply Kd.R_drew)); exact HO123.out))) (Kd.R_lt (by (with_reducible repeat (first | apply Kd.R_alloc | apply Kd.R_drewN | apply Kd.R_drew)); exact HO133.out))) (below_size (by repeat (first | (with_reducible first | exact HB.out | apply below_alloc | apply pw_below_drewN | apply below_drew1 | refine below_set ?_ GE109.out) | exact HB.out))))
                      have n4_ := Aside0.mk (blk_below (g := gb109) (o := .cells #[.int .i64 a1_0, .int .i64 a1_1, .int .i64 a1_2, .slice A1_3 l1_3.length c1_3, .int .i64 a1_4] 24 (0, 0)) (by (with_reducible repeat (first | refine blk_drewN ?_ _ | refine blk_drew ?_ | refine blk_alloc ?_ _)); exact BK109.out) hb)
                      have n5_ := Aside0.mk (C_below_at_ HR148.out (by repeat (first | (with_reducible exact HR148.out) | (with_reducible refine Kd.C_alloc ?_ _) | (with_reducible refine Kd.C_drewN ?_ _) | (with_reducible refine Kd.C_drew ?_) | exact HR148.out)) hb)
                      have n6_ := Aside0.mk (C_below_at_ HR152.out (by repeat (first | (with_reducible exact HR152.out) | (with_reducible refine Kd.C_alloc ?_ _) | (with_reducible refine Kd.C_drewN ?_ _) | (with_reducible refine Kd.C_drew ?_) | exact HR152.out)) hb)
                      have n7_ := Aside0.mk (below_step (by repeat (first | (with_reducible first | exact HB.out | apply below_alloc | apply pw_below_drewN | apply below_drew1 | refine below_set ?_ GE109.out) | exact HB.out)) hb)
                      clear HO114
                      clear HO123
                      clear HO133
                      clear BK109
                      clear HR148
                      clear HR152
                      clear HB
                      have HO114 := n0_
                      have HO123 := n1_
                      have HO133 := n2_
                      have HO156 := n3_
                      have BK109 := n4_
                      have HR148 := n5_
                      have HR152 := n6_
                      have HB := n7_
                      clear n0_ n1_ n2_ n3_ n4_ n5_ n6_ n7_
                      (try clear hb)
                      (try clear hb2)
                      (try clear hk)
                      (try clear hi)
                      (try clear ho0)
                      obtain ⟨Ao63, co63, eo63⟩ := Kd.R_slice HO156.out
                      (first | subst eo63 | (injection eo63 with f1_ f2_ f3_; have f4_ := f1_.symm; have f5_ := f3_.symm; clear f1_ f2_ f3_; subst f4_; subst f5_))
                      have n_ := Aside0.mk (Kd.R_mono (ok' := (fun k_ => some k_ ≠ (.slice Ao43 t121.length co43 : Value).ownBlock ∧ some k_ ≠ (.slice Ao49 t131.length co49 : Value).ownBlock ∧ some k_ ≠ (.slice Ao63 t154.length co63 : Value).ownBlock)) HO114.out (fun k_ hk => ⟨hk.1.1, ⟨hk.1.2, hk.2⟩⟩))
                      clear HO114
                      have HO114 := n_
                      clear n_
                      refine hK.out _ _ trivial (fun hHeld => ?_)
                      clear hK K
                      refine norm_ (a' := ?_) ?_ ?_
                      rotate_left
                      · show Act.put _ (some 60) _ = _
                        simp only [Act.put, List.setIfInBounds_toArray, List.set_cons_zero, List.set_cons_succ, i64_w, i32_w]
                        rfl
                      refine one_ (i := 7) (N := some 61) #[true, true, true, true, true, true, true, true] rfl rfl (one_of HT_.out (by kernel_rfl)) (by decide) (fun K hK => ?_)
                      refine copyin_step_ (enc := (fun z_ => Value.int .u8 z_)) (lo := 60) (w0 := w) w.heap.size (by rfl) (.tmp 55) (.tmp 60) 22 22 5 rfl Try.underlying22 (by kernel_rfl) (A0 := (some ⟨go9, 0, none⟩)) (n := y112.length) (c := co9) (xs := y142) (ys := t154) rfl rfl ?hA ?hm ?hl (by (with_reducible repeat (first | apply Kd.R_alloc | apply Kd.R_drewN | apply Kd.R_drew)); exact HO114.out) ?hR (by repeat (first | (with_reducible first | exact HB.out | apply below_alloc | apply pw_below_drewN | apply below_drew1 | refine below_set ?_ GE109.out) | exact HB.out)) (below_size (by repeat (first | (with_reducible first | exact HB.out | apply below_alloc | apply pw_below_drewN | apply below_drew1 | refine below_set ?_ GE109.out) | exact HB.out))) ?_
                      (case hA => exact KA58.out)
                      (case hm => have ha_ := KY58.out; omega)
                      (case hl => have ha_ := KL58.out; have hb_ := (Kd.R_reads' HO114.out).1; omega)
                      (case hR => repeat (first | exact (Kd.R_reads' HO156.out).2.2 | (with_reducible refine Kd.C_alloc ?_ _) | (with_reducible refine Kd.C_drewN ?_ _) | (with_reducible refine Kd.C_drew ?_)))
                      intro w61 ho hb hg
                      rw [← Ny157.out] at ho
                      have n0_ := Aside0.mk (blk_grown (g := gb109) (o := .cells #[.int .i64 a1_0, .int .i64 a1_1, .int .i64 a1_2, .slice A1_3 l1_3.length c1_3, .int .i64 a1_4] 24 (0, 0)) (by (with_reducible repeat (first | refine blk_drewN ?_ _ | refine blk_drew ?_ | refine blk_alloc ?_ _)); exact BK109.out) hg (Kd.R_ne HO114.out BK109.out (by decide)))
                      have n1_ := Aside0.mk (ho)
                      have n2_ := Aside0.mk (Kd.R_after (v := (.slice (some ⟨go9, 0, none⟩) y112.length co9)) (v1 := .slice (some ⟨go9, 0, none⟩) y112.length co9) (ok := (fun k_ => some k_ ≠ (.slice Ao49 t131.length co49 : Value).ownBlock ∧ some k_ ≠ (.slice Ao63 t154.length co63 : Value).ownBlock)) (by (with_reducible repeat (first | apply Kd.R_alloc | apply Kd.R_drewN | apply Kd.R_drew)); exact Kd.R_mono HO123.out (fun _ hk => ⟨⟨hk.1.1, hk.2⟩, hk.1.2⟩)) hg (.inl rfl))
                      have n3_ := Aside0.mk (Kd.R_after (v := (.slice (some ⟨go9, 0, none⟩) y112.length co9)) (v1 := .slice (some ⟨go9, 0, none⟩) y112.length co9) (ok := (fun k_ => some k_ ≠ (.slice Ao43 t121.length co43 : Value).ownBlock ∧ some k_ ≠ (.slice Ao63 t154.length co63 : Value).ownBlock)) (by (with_reducible repeat (first | apply Kd.R_alloc | apply Kd.R_drewN | apply Kd.R_drew)); exact Kd.R_mono HO133.out (fun _ hk => ⟨⟨hk.1.1, hk.2⟩, hk.1.2⟩)) hg (.inl rfl))
                      have n4_ := Aside0.mk (Kd.R_after (v := (.slice (some ⟨go9, 0, none⟩) y112.length co9)) (v1 := .slice (some ⟨go9, 0, none⟩) y112.length co9) (ok := (fun k_ => some k_ ≠ (.slice Ao43 t121.length co43 : Value).ownBlock ∧ some k_ ≠ (.slice Ao49 t131.length co49 : Value).ownBlock)) (by (with_reducible repeat (first | apply Kd.R_alloc | apply Kd.R_drewN | apply Kd.R_drew)); exact Kd.R_mono HO156.out (fun _ hk => ⟨⟨hk.1.2, hk.2⟩, hk.1.1.2⟩)) hg (.inl rfl))
                      have n5_ := Aside0.mk (hb)
                      clear BK109
                      clear HO114
                      clear HO123
                      clear HO133
                      clear HO156
                      clear HB
                      have BK109 := n0_
                      have HO114 := n1_
                      have HO123 := n2_
                      have HO133 := n3_
                      have HO156 := n4_
                      have HB := n5_
                      clear n0_ n1_ n2_ n3_ n4_ n5_
                      clear ho hb hg
                      refine hK.out _ _ trivial (fun hHeld => ?_)
                      clear hK K
                      refine norm_ (a' := ?_) ?_ ?_
                      rotate_left
                      · show Act.put _ (some 61) _ = _
                        simp only [Act.put, List.setIfInBounds_toArray, List.set_cons_zero, List.set_cons_succ, i64_w, i32_w]
                        rfl
                      refine done_ (done_of HT_.out (by kernel_rfl)) ?_
                      try go_wp2
                      go_ret2
                      exact ⟨_, by first | rfl | (simp [errW_none, errW_some] <;> rfl) | (simp only [← hji15]; first | rfl | (simp [errW_none, errW_some] <;> rfl)) | (simp [*, errW_none, errW_some] <;> rfl), by (with_reducible repeat (first | apply Kd.R_alloc | apply Kd.R_drewN | apply Kd.R_drew)); exact Kd.R_mono HO114.out (fun _ hk => trivial), by repeat (first | (with_reducible first | exact HB.out | apply below_alloc | apply pw_below_drewN | apply below_drew1 | refine below_set ?_ GE109.out) | exact HB.out)⟩
                    · rw [if_neg c20] at H
                      exact absurd H (by simp)
                  · rw [if_neg c19] at H
                    exact absurd H (by simp)
                · rw [if_neg c17] at H
                  exact absurd H (by simp)
              · rw [if_neg c14] at H
                exact absurd H (by simp)
            · rw [if_neg c12] at H
              exact absurd H (by simp)
          · rw [if_neg c10] at H
            exact absurd H (by simp)
        · rw [if_neg c8] at H
          exact absurd H (by simp)
      · rw [if_neg c7] at H
        exact absurd H (by simp)
    · rw [if_neg c6] at H
      have c6b0 : (t111 == 0) = false := beq_eq_false_iff_ne.mpr c6
      have c6b1 : (t111 != 0) = true := bne_iff_ne.mpr c6
      simp only [Option.some.injEq, Prod.mk.injEq] at H
      obtain ⟨rfl, rfl⟩ := H
      go_enter Try.func8, Try.ntmps8
      go_wp2_with (first | ((with_reducible refine gate_dst (N := 3) rfl ?_); refine box_event ?hg (N := 3) ?hd (cs := #[.int .i64 a1_0, .int .i64 a1_1, .int .i64 a1_2, .slice A1_3 l1_3.length c1_3, .int .i64 a1_4]) (t := 24) ?hr ?_; (case hd => rfl); (case hg => rfl); (case hr => first | (go_simp; done) | (go_simp; rfl)); intro gb109 hg w64 hbox hb; have n0_ := Aside0.mk (below_step (by repeat (first | (with_reducible first | exact HB.out | apply below_alloc | apply pw_below_drewN | apply below_drew1) | exact HB.out)) hb); have n1_ := Aside0.mk (hbox); have n2_ := Aside0.mk ((by rw [hg]; exact (below_size (by repeat (first | (with_reducible first | exact HB.out | apply below_alloc | apply pw_below_drewN | apply below_drew1) | exact HB.out))) : w.heap.size ≤ gb109)); have n3_ := Aside0.mk ((by rw [hg]; exact (below_size (by repeat (first | (with_reducible first | exact HB.out | apply below_alloc | apply pw_below_drewN | apply below_drew1) | exact HB.out))) : w.heap.size ≤ gb109)); clear HB; have HB := n0_; have BK109 := n1_; have GW109 := n2_; have GE109 := n3_; clear n0_ n1_ n2_ n3_; clear hb hbox hg) | ((with_reducible refine gate_callee (f := 22) rfl ?_); refine goesL_ (some 9) rfl rfl Try.func22 (by kernel_rfl) rfl #[.int .i64 a0] rfl (by (try simp only [List.map_toArray, List.map_cons, List.map_nil]); first | done | rfl | (simp only [List.length_drop, List.length_take]; rfl)) ?_; (with_reducible refine (record_may.calls a0 true _ A3.out).mono ?_); rintro e w' ⟨rfl, ⟨nd, rfl⟩⟩; refine ⟨_, rfl, ?_⟩; have hcz65_0 : w64.cell? ⟨gb109, 0, none⟩ = some (.int .i64 a1_0) := (blk_cell BK109.out 0).trans rfl; have hcz65_1 : w64.cell? ⟨gb109, 1, none⟩ = some (.int .i64 a1_1) := (blk_cell BK109.out 1).trans rfl; have hcz65_2 : w64.cell? ⟨gb109, 2, none⟩ = some (.int .i64 a1_2) := (blk_cell BK109.out 2).trans rfl; have hcz65_3 : w64.cell? ⟨gb109, 3, none⟩ = some (.slice A1_3 l1_3.length c1_3) := (blk_cell BK109.out 3).trans rfl; have hcz65_4 : w64.cell? ⟨gb109, 4, none⟩ = some (.int .i64 a1_4) := (blk_cell BK109.out 4).trans rfl; have hfz65_0 := blk_frozen BK109.out 0; have hfz65_1 := blk_frozen BK109.out 1; have hfz65_2 := blk_frozen BK109.out 2; have hfz65_3 := blk_frozen BK109.out 3; have hfz65_4 := blk_frozen BK109.out 4) | ((with_reducible refine gate_callee (f := 14) rfl ?_); refine goesL_ (some 12) rfl rfl Try.func14 (by kernel_rfl) rfl #[.agg #[.int .i64 a1_0, .int .i64 a1_1, .int .i64 a1_2, .slice A1_3 l1_3.length c1_3, .int .i64 a1_4]] rfl (by (try simp only [List.map_toArray, List.map_cons, List.map_nil]); first | done | rfl | (simp only [List.length_drop, List.length_take]; rfl)) ?_; (with_reducible refine (record_Check.calls a1_0 a1_1 a1_2 _ _ l1_3 a1_4 t111 _ ?side1 ?side2 A5.out).mono ?_); (case side1 => repeat (first | exact (Kd.C_below HR1_3.out (by repeat (first | (with_reducible first | exact HB.out | apply below_alloc | apply pw_below_drewN | apply below_drew1 | refine below_set ?_ GE109.out) | exact HB.out))) | (with_reducible refine Kd.C_alloc ?_ _) | (with_reducible refine Kd.C_drewN ?_ _) | (with_reducible refine Kd.C_drew ?_))); (case side2 => exact HC1_3.out); rintro e w66 ⟨rfl, hb⟩; refine ⟨_, rfl, ?_⟩; have n0_ := Aside0.mk (blk_below (g := gb109) (o := .cells #[.int .i64 a1_0, .int .i64 a1_1, .int .i64 a1_2, .slice A1_3 l1_3.length c1_3, .int .i64 a1_4] 24 (0, 0)) (by (with_reducible repeat (first | refine blk_drewN ?_ _ | refine blk_drew ?_ | refine blk_alloc ?_ _)); exact BK109.out) hb); have n1_ := Aside0.mk (below_step (by repeat (first | (with_reducible first | exact HB.out | apply below_alloc | apply pw_below_drewN | apply below_drew1 | refine below_set ?_ GE109.out) | exact HB.out)) hb); clear BK109; clear HB; have BK109 := n0_; have HB := n1_; clear n0_ n1_; (try clear hb); (try clear hb2); (try clear hk); (try clear hi)))
      go_ret2
      exact ⟨_, by first | rfl | (simp [errW_none, errW_some] <;> rfl) | (simp [*, errW_none, errW_some] <;> rfl), by first | exact Kd.R_nil _ _ _ _ _ | exact Kd.N_nil _ _ _ _ _ | exact Kd.V_nil _ _ _ _ _ | exact Kd.Q_nil _ _ _ _ _ | exact Kd.S_nil _ _ _ _ _, by repeat (first | (with_reducible first | exact HB.out | apply below_alloc | apply pw_below_drewN | apply below_drew1 | refine below_set ?_ GE109.out) | exact HB.out)⟩
  · replace c4 := Bool.eq_false_iff.mpr c4
    subst c4
    have H1 : (some (([] : List Int), 1)) = some (r1, r2) := by rw [if_neg (show ¬ (false = true) by decide)] at H; exact H
    clear H
    have H := H1
    clear H1
    simp only [Option.some.injEq, Prod.mk.injEq] at H
    obtain ⟨rfl, rfl⟩ := H
    go_enter Try.func8, Try.ntmps8
    go_wp2_with (first | ((with_reducible refine gate_dst (N := 3) rfl ?_); refine box_event ?hg (N := 3) ?hd (cs := #[.int .i64 a1_0, .int .i64 a1_1, .int .i64 a1_2, .slice A1_3 l1_3.length c1_3, .int .i64 a1_4]) (t := 24) ?hr ?_; (case hd => rfl); (case hg => rfl); (case hr => first | (go_simp; done) | (go_simp; rfl)); intro gb109 hg w67 hbox hb; have n0_ := Aside0.mk (below_step (by repeat (first | (with_reducible first | exact HB.out | apply below_alloc | apply pw_below_drewN | apply below_drew1) | exact HB.out)) hb); have n1_ := Aside0.mk (hbox); have n2_ := Aside0.mk ((by rw [hg]; exact (below_size (by repeat (first | (with_reducible first | exact HB.out | apply below_alloc | apply pw_below_drewN | apply below_drew1) | exact HB.out))) : w.heap.size ≤ gb109)); have n3_ := Aside0.mk ((by rw [hg]; exact (below_size (by repeat (first | (with_reducible first | exact HB.out | apply below_alloc | apply pw_below_drewN | apply below_drew1) | exact HB.out))) : w.heap.size ≤ gb109)); clear HB; have HB := n0_; have BK109 := n1_; have GW109 := n2_; have GE109 := n3_; clear n0_ n1_ n2_ n3_; clear hb hbox hg) | ((with_reducible refine gate_callee (f := 22) rfl ?_); refine goesL_ (some 9) rfl rfl Try.func22 (by kernel_rfl) rfl #[.int .i64 a0] rfl (by (try simp only [List.map_toArray, List.map_cons, List.map_nil]); first | done | rfl | (simp only [List.length_drop, List.length_take]; rfl)) ?_; (with_reducible refine (record_may.calls a0 false _ A3.out).mono ?_); rintro e w' ⟨rfl, ⟨nd, rfl⟩⟩; refine ⟨_, rfl, ?_⟩))
    go_ret2
    exact ⟨_, by first | rfl | (simp [errW_none, errW_some] <;> rfl) | (simp [*, errW_none, errW_some] <;> rfl), by first | exact Kd.R_nil _ _ _ _ _ | exact Kd.N_nil _ _ _ _ _ | exact Kd.V_nil _ _ _ _ _ | exact Kd.Q_nil _ _ _ _ _ | exact Kd.S_nil _ _ _ _ _, by repeat (first | (with_reducible first | exact HB.out | apply below_alloc | apply pw_below_drewN | apply below_drew1 | refine below_set ?_ GE109.out) | exact HB.out)⟩

end Go.Proofs.Ytglgndeoldgjbaa.PTwo
