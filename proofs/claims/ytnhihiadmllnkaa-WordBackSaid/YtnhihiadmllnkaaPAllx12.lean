-- Written for this claim by a program of this session's own: each Go function that the law uses, as a plain Lean function, with the proof that the machine's call comes to it.
import Derived.Test.YtnhihiadmllnkaaPAllx0
import Derived.Test.YtnhihiadmllnkaaPAllx1
import Derived.Test.YtnhihiadmllnkaaPAllx2
import Derived.Test.YtnhihiadmllnkaaPAllx5
import Derived.Test.YtnhihiadmllnkaaPAllx8
import Derived.Test.YtnhihiadmllnkaaPAllx11
namespace Go.Proofs.Ytnhihiadmllnkaa.PAll
open Go.RowKit Go.Proofs.YtnhihiadmllnkaaW.PrintWords Go.Proofs.YtnhihiadmllnkaaW.PrintLast Go.Proofs.YtnhihiadmllnkaaW.PrintMore
attribute [local go_sem] max2_int min2_int max_two min_two max_three min_three max_four min_four   -- for this text's walks alone
set_option linter.unusedVariables false
set_option linter.unusedSimpArgs false

/-! ### atticlaw01_WordBack: function 8 -/
mutual
def atticlaw01_WordBack.j0 : Nat → List Int → Bool → Option (Bool)
  | 0, _, _ => none
  | k + 1, x2, x80 => if x80 = true then (some false) else ((word_Seal.f k x2).bind fun t270 => ((word_Unseal.f k t270).bind fun bt273 => (if bt273.2 = 0 then ((bytes_Equal.f bt273.1 x2).bind fun t277 => (atticlaw01_WordBack.j1 k x2 (!t277))) else (atticlaw01_WordBack.j1 k x2 true))))
def atticlaw01_WordBack.j1 : Nat → List Int → Bool → Option (Bool)
  | 0, _, _ => none
  | k + 1, x2, x94 => if x94 = true then (some false) else ((word_TakeUvar.f k x2).bind fun bt278 => (if bt278.2.2 = 0 then (if bt278.2.1 ≤ (x2.length : Int) then (if bt278.2.1 ≥ 0 then ((word_Uvar.f k bt278.1).bind fun t281 => (if 0 ≤ bt278.2.1 then ((bytes_Equal.f t281 (x2.take (bt278.2.1 : Int).toNat)).bind fun t285 => (some t285)) else (none))) else (some false)) else (some false)) else (some true)))
end
def atticlaw01_WordBack.f (k : Nat) (a0 : Int) (a1 : Int) (l2 : List Int) : Option (Bool) := (atticlaw01_live.f).bind fun t240 => (if t240 = true then ((word_Num.f k (wrap64 (1 + (Int.tmod (wrap64 (a1)) 8))) a0).bind fun t241 => (if t241.length + l2.length < 140737488355328 then ((word_Get.f k (t241 ++ l2) 0 (wrap64 (1 + (Int.tmod (wrap64 (a1)) 8)))).bind fun bt247 => ((word_Uvar.f k a0).bind fun t249 => (if t249.length + l2.length < 140737488355328 then ((word_TakeUvar.f k (t249 ++ l2)).bind fun bt255 => (if bt247.2 = true then (if (wrap64 (1 + (Int.tmod (wrap64 (a1)) 8))) < 8 then (if 0 ≤ (IntKind.u64.wrap (wrap64 (8 * (wrap64 (1 + (Int.tmod (wrap64 (a1)) 8)))))) then (if (shl .u64 1 (IntKind.u64.wrap (wrap64 (8 * (wrap64 (1 + (Int.tmod (wrap64 (a1)) 8))))))) = 0 then (none) else (if bt247.1 = (Int.tmod a0 (shl .u64 1 (IntKind.u64.wrap (wrap64 (8 * (wrap64 (1 + (Int.tmod (wrap64 (a1)) 8)))))))) then (if (wrap64 (1 + (Int.tmod (wrap64 (a1)) 8))) = 8 then (if bt247.1 = a0 then (if bt255.2.2 = 0 then (if bt255.1 = a0 then ((word_Uvar.f k a0).bind fun t258 => (atticlaw01_WordBack.j0 k l2 (bt255.2.1 != (t258.length : Int)))) else (atticlaw01_WordBack.j0 k l2 true)) else (atticlaw01_WordBack.j0 k l2 true)) else (atticlaw01_WordBack.j0 k l2 true)) else (if bt255.2.2 = 0 then (if bt255.1 = a0 then ((word_Uvar.f k a0).bind fun t261 => (atticlaw01_WordBack.j0 k l2 (bt255.2.1 != (t261.length : Int)))) else (atticlaw01_WordBack.j0 k l2 true)) else (atticlaw01_WordBack.j0 k l2 true))) else (atticlaw01_WordBack.j0 k l2 true))) else (none)) else (if (wrap64 (1 + (Int.tmod (wrap64 (a1)) 8))) = 8 then (if bt247.1 = a0 then (if bt255.2.2 = 0 then (if bt255.1 = a0 then ((word_Uvar.f k a0).bind fun t264 => (atticlaw01_WordBack.j0 k l2 (bt255.2.1 != (t264.length : Int)))) else (atticlaw01_WordBack.j0 k l2 true)) else (atticlaw01_WordBack.j0 k l2 true)) else (atticlaw01_WordBack.j0 k l2 true)) else (if bt255.2.2 = 0 then (if bt255.1 = a0 then ((word_Uvar.f k a0).bind fun t267 => (atticlaw01_WordBack.j0 k l2 (bt255.2.1 != (t267.length : Int)))) else (atticlaw01_WordBack.j0 k l2 true)) else (atticlaw01_WordBack.j0 k l2 true)))) else (atticlaw01_WordBack.j0 k l2 true))) else (none)))) else (none))) else (some false))
theorem atticlaw01_WordBack.mono_l : ∀ k, (∀ y0 y1, LeO (atticlaw01_WordBack.j0 k y0 y1) (atticlaw01_WordBack.j0 (k + 1) y0 y1)) ∧ (∀ y0 y1, LeO (atticlaw01_WordBack.j1 k y0 y1) (atticlaw01_WordBack.j1 (k + 1) y0 y1))
  | 0 => ⟨fun _ _ r h => by simp [atticlaw01_WordBack.j0] at h, fun _ _ r h => by simp [atticlaw01_WordBack.j1] at h⟩
  | k + 1 => by
    obtain ⟨ih0, ih1⟩ := atticlaw01_WordBack.mono_l k
    refine ⟨?_, ?_⟩
    · intro y0 y1
      unfold atticlaw01_WordBack.j0
      repeat' first
      | (with_reducible exact ih0 _ _)
      | (with_reducible exact ih1 _ _)
      | (with_reducible exact word_Get.mono _ _ _ _)
      | (with_reducible exact word_Num.mono _ _ _)
      | (with_reducible exact word_Seal.mono _ _)
      | (with_reducible exact word_TakeUvar.mono _ _)
      | (with_reducible exact word_Unseal.mono _ _)
      | (with_reducible exact word_Uvar.mono _ _)
      | (with_reducible exact LeO.refl _)
      | (with_reducible exact LeO.none _)
      | (with_reducible refine LeO.ite ?_ ?_)
      | (with_reducible refine LeO.bind ?_ (fun _ => ?_))
      | exact ih0 _ _
      | exact ih1 _ _
      | exact word_Get.mono _ _ _ _
      | exact word_Num.mono _ _ _
      | exact word_Seal.mono _ _
      | exact word_TakeUvar.mono _ _
      | exact word_Unseal.mono _ _
      | exact word_Uvar.mono _ _
      | exact LeO.none _
      | refine LeO.ite ?_ ?_
      | refine LeO.bind ?_ (fun _ => ?_)
    · intro y0 y1
      unfold atticlaw01_WordBack.j1
      repeat' first
      | (with_reducible exact ih0 _ _)
      | (with_reducible exact ih1 _ _)
      | (with_reducible exact word_Get.mono _ _ _ _)
      | (with_reducible exact word_Num.mono _ _ _)
      | (with_reducible exact word_Seal.mono _ _)
      | (with_reducible exact word_TakeUvar.mono _ _)
      | (with_reducible exact word_Unseal.mono _ _)
      | (with_reducible exact word_Uvar.mono _ _)
      | (with_reducible exact LeO.refl _)
      | (with_reducible exact LeO.none _)
      | (with_reducible refine LeO.ite ?_ ?_)
      | (with_reducible refine LeO.bind ?_ (fun _ => ?_))
      | exact ih0 _ _
      | exact ih1 _ _
      | exact word_Get.mono _ _ _ _
      | exact word_Num.mono _ _ _
      | exact word_Seal.mono _ _
      | exact word_TakeUvar.mono _ _
      | exact word_Unseal.mono _ _
      | exact word_Uvar.mono _ _
      | exact LeO.none _
      | refine LeO.ite ?_ ?_
      | refine LeO.bind ?_ (fun _ => ?_)
theorem atticlaw01_WordBack.mono : ∀ a0 a1 a2 k, LeO (atticlaw01_WordBack.f k a0 a1 a2) (atticlaw01_WordBack.f (k + 1) a0 a1 a2) := by
  intro a0 a1 a2 k
  obtain ⟨ih0, ih1⟩ := atticlaw01_WordBack.mono_l k
  unfold atticlaw01_WordBack.f
  repeat' first
      | (with_reducible exact ih0 _ _)
      | (with_reducible exact ih1 _ _)
      | (with_reducible exact word_Get.mono _ _ _ _)
      | (with_reducible exact word_Num.mono _ _ _)
      | (with_reducible exact word_Seal.mono _ _)
      | (with_reducible exact word_TakeUvar.mono _ _)
      | (with_reducible exact word_Unseal.mono _ _)
      | (with_reducible exact word_Uvar.mono _ _)
      | (with_reducible exact LeO.refl _)
      | (with_reducible exact LeO.none _)
      | (with_reducible refine LeO.ite ?_ ?_)
      | (with_reducible refine LeO.bind ?_ (fun _ => ?_))
      | exact ih0 _ _
      | exact ih1 _ _
      | exact word_Get.mono _ _ _ _
      | exact word_Num.mono _ _ _
      | exact word_Seal.mono _ _
      | exact word_TakeUvar.mono _ _
      | exact word_Unseal.mono _ _
      | exact word_Uvar.mono _ _
      | exact LeO.none _
      | refine LeO.ite ?_ ?_
      | refine LeO.bind ?_ (fun _ => ?_)
def atticlaw01_WordBack.T12 : Bool × List (List Nat × List Nat) := (true, [([], []), ([0], [0]), ([1], [1]), ([2], [2]), ([2], [2]), ([4, 2], [2, 4]), ([3, 5, 2], [2, 3, 5]), ([6, 2, 2], [2, 6]), ([7], [7]), ([8, 7], [7, 8]), ([7, 9, 2], [2, 7, 9]), ([10, 7, 2], [2, 10]), ([11], [11]), ([12, 11, 11], [11, 12]), ([11], [11]), ([11], [11]), ([14, 15, 11], [11, 14, 15]), ([13, 16, 13, 11], [11, 13, 16]), ([11, 17, 2], [2, 11, 17]), ([2, 18], [2, 18]), ([19, 17, 0, 1, 2, 3, 4, 5, 6, 7, 8, 9, 10, 11, 12, 13, 14, 15, 16, 17, 18, 19], [19])])
def atticlaw01_WordBack.B12 : List Nat := [0, 1, 3, 7, 7, 23, 63, 127, 255, 511, 1023, 2047, 4095, 8191, 4095, 4095, 53247, 131071, 262143, 524287, 1048575]
theorem atticlaw01_WordBack.tab12 : rtab .any (opsOf Try.f8 12) = atticlaw01_WordBack.T12 := by kernel_rfl
theorem atticlaw01_WordBack.bits12 : waitsOk atticlaw01_WordBack.T12.2 atticlaw01_WordBack.B12 = true := by kernel_rfl
set_option maxHeartbeats 8000000 in
set_option maxRecDepth 100000 in
theorem atticlaw01_WordBack.calls (k : Nat) (a0 : Int) (a1 : Int) (A2 : Option Addr) (c2 : Nat) (l2 : List Int) (r : Bool) (w : World) (hr2 : Kd.C (Kd.int .u8) w A2 l2.length l2) (hc2 : l2.length ≤ c2) (h : atticlaw01_WordBack.f k a0 a1 l2 = some r) :
    Calls Try.prog 8 #[.int .u64 a0, .int .u8 a1, .slice A2 l2.length c2] w fun e w' => e = .returned (.bool r) ∧ Below w.heap.size w w' := by
  have HR2 := Aside0.mk hr2
  have HC2 := Aside0.mk hc2
  clear hr2 hc2
  have HB := Aside0.mk (Below.refl w.heap.size w)
  have H : ((atticlaw01_live.f).bind fun t240 => (if t240 = true then ((word_Num.f k (wrap64 (1 + (Int.tmod (wrap64 (a1)) 8))) a0).bind fun t241 => (if t241.length + l2.length < 140737488355328 then ((word_Get.f k (t241 ++ l2) 0 (wrap64 (1 + (Int.tmod (wrap64 (a1)) 8)))).bind fun bt247 => ((word_Uvar.f k a0).bind fun t249 => (if t249.length + l2.length < 140737488355328 then ((word_TakeUvar.f k (t249 ++ l2)).bind fun bt255 => (if bt247.2 = true then (if (wrap64 (1 + (Int.tmod (wrap64 (a1)) 8))) < 8 then (if 0 ≤ (IntKind.u64.wrap (wrap64 (8 * (wrap64 (1 + (Int.tmod (wrap64 (a1)) 8)))))) then (if (shl .u64 1 (IntKind.u64.wrap (wrap64 (8 * (wrap64 (1 + (Int.tmod (wrap64 (a1)) 8))))))) = 0 then (none) else (if bt247.1 = (Int.tmod a0 (shl .u64 1 (IntKind.u64.wrap (wrap64 (8 * (wrap64 (1 + (Int.tmod (wrap64 (a1)) 8)))))))) then (if (wrap64 (1 + (Int.tmod (wrap64 (a1)) 8))) = 8 then (if bt247.1 = a0 then (if bt255.2.2 = 0 then (if bt255.1 = a0 then ((word_Uvar.f k a0).bind fun t258 => (atticlaw01_WordBack.j0 k l2 (bt255.2.1 != (t258.length : Int)))) else (atticlaw01_WordBack.j0 k l2 true)) else (atticlaw01_WordBack.j0 k l2 true)) else (atticlaw01_WordBack.j0 k l2 true)) else (if bt255.2.2 = 0 then (if bt255.1 = a0 then ((word_Uvar.f k a0).bind fun t261 => (atticlaw01_WordBack.j0 k l2 (bt255.2.1 != (t261.length : Int)))) else (atticlaw01_WordBack.j0 k l2 true)) else (atticlaw01_WordBack.j0 k l2 true))) else (atticlaw01_WordBack.j0 k l2 true))) else (none)) else (if (wrap64 (1 + (Int.tmod (wrap64 (a1)) 8))) = 8 then (if bt247.1 = a0 then (if bt255.2.2 = 0 then (if bt255.1 = a0 then ((word_Uvar.f k a0).bind fun t264 => (atticlaw01_WordBack.j0 k l2 (bt255.2.1 != (t264.length : Int)))) else (atticlaw01_WordBack.j0 k l2 true)) else (atticlaw01_WordBack.j0 k l2 true)) else (atticlaw01_WordBack.j0 k l2 true)) else (if bt255.2.2 = 0 then (if bt255.1 = a0 then ((word_Uvar.f k a0).bind fun t267 => (atticlaw01_WordBack.j0 k l2 (bt255.2.1 != (t267.length : Int)))) else (atticlaw01_WordBack.j0 k l2 true)) else (atticlaw01_WordBack.j0 k l2 true)))) else (atticlaw01_WordBack.j0 k l2 true))) else (none)))) else (none))) else (some false))) = some r := h
  clear h
  replace H := Option.bind_eq_some_iff.mp H
  obtain ⟨t240, A40, H⟩ := H
  replace H : (if t240 = true then ((word_Num.f k (wrap64 (1 + (Int.tmod (wrap64 (a1)) 8))) a0).bind fun t241 => (if t241.length + l2.length < 140737488355328 then ((word_Get.f k (t241 ++ l2) 0 (wrap64 (1 + (Int.tmod (wrap64 (a1)) 8)))).bind fun bt247 => ((word_Uvar.f k a0).bind fun t249 => (if t249.length + l2.length < 140737488355328 then ((word_TakeUvar.f k (t249 ++ l2)).bind fun bt255 => (if bt247.2 = true then (if (wrap64 (1 + (Int.tmod (wrap64 (a1)) 8))) < 8 then (if 0 ≤ (IntKind.u64.wrap (wrap64 (8 * (wrap64 (1 + (Int.tmod (wrap64 (a1)) 8)))))) then (if (shl .u64 1 (IntKind.u64.wrap (wrap64 (8 * (wrap64 (1 + (Int.tmod (wrap64 (a1)) 8))))))) = 0 then (none) else (if bt247.1 = (Int.tmod a0 (shl .u64 1 (IntKind.u64.wrap (wrap64 (8 * (wrap64 (1 + (Int.tmod (wrap64 (a1)) 8)))))))) then (if (wrap64 (1 + (Int.tmod (wrap64 (a1)) 8))) = 8 then (if bt247.1 = a0 then (if bt255.2.2 = 0 then (if bt255.1 = a0 then ((word_Uvar.f k a0).bind fun t258 => (atticlaw01_WordBack.j0 k l2 (bt255.2.1 != (t258.length : Int)))) else (atticlaw01_WordBack.j0 k l2 true)) else (atticlaw01_WordBack.j0 k l2 true)) else (atticlaw01_WordBack.j0 k l2 true)) else (if bt255.2.2 = 0 then (if bt255.1 = a0 then ((word_Uvar.f k a0).bind fun t261 => (atticlaw01_WordBack.j0 k l2 (bt255.2.1 != (t261.length : Int)))) else (atticlaw01_WordBack.j0 k l2 true)) else (atticlaw01_WordBack.j0 k l2 true))) else (atticlaw01_WordBack.j0 k l2 true))) else (none)) else (if (wrap64 (1 + (Int.tmod (wrap64 (a1)) 8))) = 8 then (if bt247.1 = a0 then (if bt255.2.2 = 0 then (if bt255.1 = a0 then ((word_Uvar.f k a0).bind fun t264 => (atticlaw01_WordBack.j0 k l2 (bt255.2.1 != (t264.length : Int)))) else (atticlaw01_WordBack.j0 k l2 true)) else (atticlaw01_WordBack.j0 k l2 true)) else (atticlaw01_WordBack.j0 k l2 true)) else (if bt255.2.2 = 0 then (if bt255.1 = a0 then ((word_Uvar.f k a0).bind fun t267 => (atticlaw01_WordBack.j0 k l2 (bt255.2.1 != (t267.length : Int)))) else (atticlaw01_WordBack.j0 k l2 true)) else (atticlaw01_WordBack.j0 k l2 true)))) else (atticlaw01_WordBack.j0 k l2 true))) else (none)))) else (none))) else (some false)) = some r := H
  have A4 := Aside0.mk A40
  clear A40
  by_cases c5 : t240 = true
  · subst c5
    have H1 : ((word_Num.f k (wrap64 (1 + (Int.tmod (wrap64 (a1)) 8))) a0).bind fun t241 => (if t241.length + l2.length < 140737488355328 then ((word_Get.f k (t241 ++ l2) 0 (wrap64 (1 + (Int.tmod (wrap64 (a1)) 8)))).bind fun bt247 => ((word_Uvar.f k a0).bind fun t249 => (if t249.length + l2.length < 140737488355328 then ((word_TakeUvar.f k (t249 ++ l2)).bind fun bt255 => (if bt247.2 = true then (if (wrap64 (1 + (Int.tmod (wrap64 (a1)) 8))) < 8 then (if 0 ≤ (IntKind.u64.wrap (wrap64 (8 * (wrap64 (1 + (Int.tmod (wrap64 (a1)) 8)))))) then (if (shl .u64 1 (IntKind.u64.wrap (wrap64 (8 * (wrap64 (1 + (Int.tmod (wrap64 (a1)) 8))))))) = 0 then (none) else (if bt247.1 = (Int.tmod a0 (shl .u64 1 (IntKind.u64.wrap (wrap64 (8 * (wrap64 (1 + (Int.tmod (wrap64 (a1)) 8)))))))) then (if (wrap64 (1 + (Int.tmod (wrap64 (a1)) 8))) = 8 then (if bt247.1 = a0 then (if bt255.2.2 = 0 then (if bt255.1 = a0 then ((word_Uvar.f k a0).bind fun t258 => (atticlaw01_WordBack.j0 k l2 (bt255.2.1 != (t258.length : Int)))) else (atticlaw01_WordBack.j0 k l2 true)) else (atticlaw01_WordBack.j0 k l2 true)) else (atticlaw01_WordBack.j0 k l2 true)) else (if bt255.2.2 = 0 then (if bt255.1 = a0 then ((word_Uvar.f k a0).bind fun t261 => (atticlaw01_WordBack.j0 k l2 (bt255.2.1 != (t261.length : Int)))) else (atticlaw01_WordBack.j0 k l2 true)) else (atticlaw01_WordBack.j0 k l2 true))) else (atticlaw01_WordBack.j0 k l2 true))) else (none)) else (if (wrap64 (1 + (Int.tmod (wrap64 (a1)) 8))) = 8 then (if bt247.1 = a0 then (if bt255.2.2 = 0 then (if bt255.1 = a0 then ((word_Uvar.f k a0).bind fun t264 => (atticlaw01_WordBack.j0 k l2 (bt255.2.1 != (t264.length : Int)))) else (atticlaw01_WordBack.j0 k l2 true)) else (atticlaw01_WordBack.j0 k l2 true)) else (atticlaw01_WordBack.j0 k l2 true)) else (if bt255.2.2 = 0 then (if bt255.1 = a0 then ((word_Uvar.f k a0).bind fun t267 => (atticlaw01_WordBack.j0 k l2 (bt255.2.1 != (t267.length : Int)))) else (atticlaw01_WordBack.j0 k l2 true)) else (atticlaw01_WordBack.j0 k l2 true)))) else (atticlaw01_WordBack.j0 k l2 true))) else (none)))) else (none))) = some r := by rw [if_pos rfl] at H; exact H
    clear H
    have H := H1
    clear H1
    replace H := Option.bind_eq_some_iff.mp H
    obtain ⟨t241, A60, H⟩ := H
    replace H : (if t241.length + l2.length < 140737488355328 then ((word_Get.f k (t241 ++ l2) 0 (wrap64 (1 + (Int.tmod (wrap64 (a1)) 8)))).bind fun bt247 => ((word_Uvar.f k a0).bind fun t249 => (if t249.length + l2.length < 140737488355328 then ((word_TakeUvar.f k (t249 ++ l2)).bind fun bt255 => (if bt247.2 = true then (if (wrap64 (1 + (Int.tmod (wrap64 (a1)) 8))) < 8 then (if 0 ≤ (IntKind.u64.wrap (wrap64 (8 * (wrap64 (1 + (Int.tmod (wrap64 (a1)) 8)))))) then (if (shl .u64 1 (IntKind.u64.wrap (wrap64 (8 * (wrap64 (1 + (Int.tmod (wrap64 (a1)) 8))))))) = 0 then (none) else (if bt247.1 = (Int.tmod a0 (shl .u64 1 (IntKind.u64.wrap (wrap64 (8 * (wrap64 (1 + (Int.tmod (wrap64 (a1)) 8)))))))) then (if (wrap64 (1 + (Int.tmod (wrap64 (a1)) 8))) = 8 then (if bt247.1 = a0 then (if bt255.2.2 = 0 then (if bt255.1 = a0 then ((word_Uvar.f k a0).bind fun t258 => (atticlaw01_WordBack.j0 k l2 (bt255.2.1 != (t258.length : Int)))) else (atticlaw01_WordBack.j0 k l2 true)) else (atticlaw01_WordBack.j0 k l2 true)) else (atticlaw01_WordBack.j0 k l2 true)) else (if bt255.2.2 = 0 then (if bt255.1 = a0 then ((word_Uvar.f k a0).bind fun t261 => (atticlaw01_WordBack.j0 k l2 (bt255.2.1 != (t261.length : Int)))) else (atticlaw01_WordBack.j0 k l2 true)) else (atticlaw01_WordBack.j0 k l2 true))) else (atticlaw01_WordBack.j0 k l2 true))) else (none)) else (if (wrap64 (1 + (Int.tmod (wrap64 (a1)) 8))) = 8 then (if bt247.1 = a0 then (if bt255.2.2 = 0 then (if bt255.1 = a0 then ((word_Uvar.f k a0).bind fun t264 => (atticlaw01_WordBack.j0 k l2 (bt255.2.1 != (t264.length : Int)))) else (atticlaw01_WordBack.j0 k l2 true)) else (atticlaw01_WordBack.j0 k l2 true)) else (atticlaw01_WordBack.j0 k l2 true)) else (if bt255.2.2 = 0 then (if bt255.1 = a0 then ((word_Uvar.f k a0).bind fun t267 => (atticlaw01_WordBack.j0 k l2 (bt255.2.1 != (t267.length : Int)))) else (atticlaw01_WordBack.j0 k l2 true)) else (atticlaw01_WordBack.j0 k l2 true)))) else (atticlaw01_WordBack.j0 k l2 true))) else (none)))) else (none)) = some r := H
    have A6 := Aside0.mk A60
    clear A60
    by_cases c7 : t241.length + l2.length < 140737488355328
    · rw [if_pos c7] at H
      have LMc7 := Aside0.mk c7
      clear c7
      obtain ⟨y244, hy244⟩ : ∃ y_ : List Int, y_ = (t241 ++ l2) := ⟨_, rfl⟩
      replace H : ((word_Get.f k y244 0 (wrap64 (1 + (Int.tmod (wrap64 (a1)) 8)))).bind fun bt247 => ((word_Uvar.f k a0).bind fun t249 => (if t249.length + l2.length < 140737488355328 then ((word_TakeUvar.f k (t249 ++ l2)).bind fun bt255 => (if bt247.2 = true then (if (wrap64 (1 + (Int.tmod (wrap64 (a1)) 8))) < 8 then (if 0 ≤ (IntKind.u64.wrap (wrap64 (8 * (wrap64 (1 + (Int.tmod (wrap64 (a1)) 8)))))) then (if (shl .u64 1 (IntKind.u64.wrap (wrap64 (8 * (wrap64 (1 + (Int.tmod (wrap64 (a1)) 8))))))) = 0 then (none) else (if bt247.1 = (Int.tmod a0 (shl .u64 1 (IntKind.u64.wrap (wrap64 (8 * (wrap64 (1 + (Int.tmod (wrap64 (a1)) 8)))))))) then (if (wrap64 (1 + (Int.tmod (wrap64 (a1)) 8))) = 8 then (if bt247.1 = a0 then (if bt255.2.2 = 0 then (if bt255.1 = a0 then ((word_Uvar.f k a0).bind fun t258 => (atticlaw01_WordBack.j0 k l2 (bt255.2.1 != (t258.length : Int)))) else (atticlaw01_WordBack.j0 k l2 true)) else (atticlaw01_WordBack.j0 k l2 true)) else (atticlaw01_WordBack.j0 k l2 true)) else (if bt255.2.2 = 0 then (if bt255.1 = a0 then ((word_Uvar.f k a0).bind fun t261 => (atticlaw01_WordBack.j0 k l2 (bt255.2.1 != (t261.length : Int)))) else (atticlaw01_WordBack.j0 k l2 true)) else (atticlaw01_WordBack.j0 k l2 true))) else (atticlaw01_WordBack.j0 k l2 true))) else (none)) else (if (wrap64 (1 + (Int.tmod (wrap64 (a1)) 8))) = 8 then (if bt247.1 = a0 then (if bt255.2.2 = 0 then (if bt255.1 = a0 then ((word_Uvar.f k a0).bind fun t264 => (atticlaw01_WordBack.j0 k l2 (bt255.2.1 != (t264.length : Int)))) else (atticlaw01_WordBack.j0 k l2 true)) else (atticlaw01_WordBack.j0 k l2 true)) else (atticlaw01_WordBack.j0 k l2 true)) else (if bt255.2.2 = 0 then (if bt255.1 = a0 then ((word_Uvar.f k a0).bind fun t267 => (atticlaw01_WordBack.j0 k l2 (bt255.2.1 != (t267.length : Int)))) else (atticlaw01_WordBack.j0 k l2 true)) else (atticlaw01_WordBack.j0 k l2 true)))) else (atticlaw01_WordBack.j0 k l2 true))) else (none)))) = some r := by first | (rw [hy244]; with_reducible exact H) | (have H2_ := (Option.bind_some _ _).symm.trans H; rw [hy244]; with_reducible exact H2_) | (have H2_ := (Option.bind_some _ _).symm.trans H; with_reducible exact H2_) | with_reducible exact H | (rw [hy244]; exact H) | exact H
      have Ny244 := Aside0.mk hy244
      clear hy244
      replace H := Option.bind_eq_some_iff.mp H
      obtain ⟨⟨t247, t248⟩, A80, H⟩ := H
      replace H : ((word_Uvar.f k a0).bind fun t249 => (if t249.length + l2.length < 140737488355328 then ((word_TakeUvar.f k (t249 ++ l2)).bind fun bt255 => (if t248 = true then (if (wrap64 (1 + (Int.tmod (wrap64 (a1)) 8))) < 8 then (if 0 ≤ (IntKind.u64.wrap (wrap64 (8 * (wrap64 (1 + (Int.tmod (wrap64 (a1)) 8)))))) then (if (shl .u64 1 (IntKind.u64.wrap (wrap64 (8 * (wrap64 (1 + (Int.tmod (wrap64 (a1)) 8))))))) = 0 then (none) else (if t247 = (Int.tmod a0 (shl .u64 1 (IntKind.u64.wrap (wrap64 (8 * (wrap64 (1 + (Int.tmod (wrap64 (a1)) 8)))))))) then (if (wrap64 (1 + (Int.tmod (wrap64 (a1)) 8))) = 8 then (if t247 = a0 then (if bt255.2.2 = 0 then (if bt255.1 = a0 then ((word_Uvar.f k a0).bind fun t258 => (atticlaw01_WordBack.j0 k l2 (bt255.2.1 != (t258.length : Int)))) else (atticlaw01_WordBack.j0 k l2 true)) else (atticlaw01_WordBack.j0 k l2 true)) else (atticlaw01_WordBack.j0 k l2 true)) else (if bt255.2.2 = 0 then (if bt255.1 = a0 then ((word_Uvar.f k a0).bind fun t261 => (atticlaw01_WordBack.j0 k l2 (bt255.2.1 != (t261.length : Int)))) else (atticlaw01_WordBack.j0 k l2 true)) else (atticlaw01_WordBack.j0 k l2 true))) else (atticlaw01_WordBack.j0 k l2 true))) else (none)) else (if (wrap64 (1 + (Int.tmod (wrap64 (a1)) 8))) = 8 then (if t247 = a0 then (if bt255.2.2 = 0 then (if bt255.1 = a0 then ((word_Uvar.f k a0).bind fun t264 => (atticlaw01_WordBack.j0 k l2 (bt255.2.1 != (t264.length : Int)))) else (atticlaw01_WordBack.j0 k l2 true)) else (atticlaw01_WordBack.j0 k l2 true)) else (atticlaw01_WordBack.j0 k l2 true)) else (if bt255.2.2 = 0 then (if bt255.1 = a0 then ((word_Uvar.f k a0).bind fun t267 => (atticlaw01_WordBack.j0 k l2 (bt255.2.1 != (t267.length : Int)))) else (atticlaw01_WordBack.j0 k l2 true)) else (atticlaw01_WordBack.j0 k l2 true)))) else (atticlaw01_WordBack.j0 k l2 true))) else (none))) = some r := H
      have A8 := Aside0.mk A80
      clear A80
      replace H := Option.bind_eq_some_iff.mp H
      obtain ⟨t249, A90, H⟩ := H
      replace H : (if t249.length + l2.length < 140737488355328 then ((word_TakeUvar.f k (t249 ++ l2)).bind fun bt255 => (if t248 = true then (if (wrap64 (1 + (Int.tmod (wrap64 (a1)) 8))) < 8 then (if 0 ≤ (IntKind.u64.wrap (wrap64 (8 * (wrap64 (1 + (Int.tmod (wrap64 (a1)) 8)))))) then (if (shl .u64 1 (IntKind.u64.wrap (wrap64 (8 * (wrap64 (1 + (Int.tmod (wrap64 (a1)) 8))))))) = 0 then (none) else (if t247 = (Int.tmod a0 (shl .u64 1 (IntKind.u64.wrap (wrap64 (8 * (wrap64 (1 + (Int.tmod (wrap64 (a1)) 8)))))))) then (if (wrap64 (1 + (Int.tmod (wrap64 (a1)) 8))) = 8 then (if t247 = a0 then (if bt255.2.2 = 0 then (if bt255.1 = a0 then ((word_Uvar.f k a0).bind fun t258 => (atticlaw01_WordBack.j0 k l2 (bt255.2.1 != (t258.length : Int)))) else (atticlaw01_WordBack.j0 k l2 true)) else (atticlaw01_WordBack.j0 k l2 true)) else (atticlaw01_WordBack.j0 k l2 true)) else (if bt255.2.2 = 0 then (if bt255.1 = a0 then ((word_Uvar.f k a0).bind fun t261 => (atticlaw01_WordBack.j0 k l2 (bt255.2.1 != (t261.length : Int)))) else (atticlaw01_WordBack.j0 k l2 true)) else (atticlaw01_WordBack.j0 k l2 true))) else (atticlaw01_WordBack.j0 k l2 true))) else (none)) else (if (wrap64 (1 + (Int.tmod (wrap64 (a1)) 8))) = 8 then (if t247 = a0 then (if bt255.2.2 = 0 then (if bt255.1 = a0 then ((word_Uvar.f k a0).bind fun t264 => (atticlaw01_WordBack.j0 k l2 (bt255.2.1 != (t264.length : Int)))) else (atticlaw01_WordBack.j0 k l2 true)) else (atticlaw01_WordBack.j0 k l2 true)) else (atticlaw01_WordBack.j0 k l2 true)) else (if bt255.2.2 = 0 then (if bt255.1 = a0 then ((word_Uvar.f k a0).bind fun t267 => (atticlaw01_WordBack.j0 k l2 (bt255.2.1 != (t267.length : Int)))) else (atticlaw01_WordBack.j0 k l2 true)) else (atticlaw01_WordBack.j0 k l2 true)))) else (atticlaw01_WordBack.j0 k l2 true))) else (none)) = some r := H
      have A9 := Aside0.mk A90
      clear A90
      by_cases c10 : t249.length + l2.length < 140737488355328
      · rw [if_pos c10] at H
        have LMc10 := Aside0.mk c10
        clear c10
        obtain ⟨y252, hy252⟩ : ∃ y_ : List Int, y_ = (t249 ++ l2) := ⟨_, rfl⟩
        replace H : ((word_TakeUvar.f k y252).bind fun bt255 => (if t248 = true then (if (wrap64 (1 + (Int.tmod (wrap64 (a1)) 8))) < 8 then (if 0 ≤ (IntKind.u64.wrap (wrap64 (8 * (wrap64 (1 + (Int.tmod (wrap64 (a1)) 8)))))) then (if (shl .u64 1 (IntKind.u64.wrap (wrap64 (8 * (wrap64 (1 + (Int.tmod (wrap64 (a1)) 8))))))) = 0 then (none) else (if t247 = (Int.tmod a0 (shl .u64 1 (IntKind.u64.wrap (wrap64 (8 * (wrap64 (1 + (Int.tmod (wrap64 (a1)) 8)))))))) then (if (wrap64 (1 + (Int.tmod (wrap64 (a1)) 8))) = 8 then (if t247 = a0 then (if bt255.2.2 = 0 then (if bt255.1 = a0 then ((word_Uvar.f k a0).bind fun t258 => (atticlaw01_WordBack.j0 k l2 (bt255.2.1 != (t258.length : Int)))) else (atticlaw01_WordBack.j0 k l2 true)) else (atticlaw01_WordBack.j0 k l2 true)) else (atticlaw01_WordBack.j0 k l2 true)) else (if bt255.2.2 = 0 then (if bt255.1 = a0 then ((word_Uvar.f k a0).bind fun t261 => (atticlaw01_WordBack.j0 k l2 (bt255.2.1 != (t261.length : Int)))) else (atticlaw01_WordBack.j0 k l2 true)) else (atticlaw01_WordBack.j0 k l2 true))) else (atticlaw01_WordBack.j0 k l2 true))) else (none)) else (if (wrap64 (1 + (Int.tmod (wrap64 (a1)) 8))) = 8 then (if t247 = a0 then (if bt255.2.2 = 0 then (if bt255.1 = a0 then ((word_Uvar.f k a0).bind fun t264 => (atticlaw01_WordBack.j0 k l2 (bt255.2.1 != (t264.length : Int)))) else (atticlaw01_WordBack.j0 k l2 true)) else (atticlaw01_WordBack.j0 k l2 true)) else (atticlaw01_WordBack.j0 k l2 true)) else (if bt255.2.2 = 0 then (if bt255.1 = a0 then ((word_Uvar.f k a0).bind fun t267 => (atticlaw01_WordBack.j0 k l2 (bt255.2.1 != (t267.length : Int)))) else (atticlaw01_WordBack.j0 k l2 true)) else (atticlaw01_WordBack.j0 k l2 true)))) else (atticlaw01_WordBack.j0 k l2 true))) = some r := by first | (rw [hy252]; with_reducible exact H) | (have H2_ := (Option.bind_some _ _).symm.trans H; rw [hy252]; with_reducible exact H2_) | (have H2_ := (Option.bind_some _ _).symm.trans H; with_reducible exact H2_) | with_reducible exact H | (rw [hy252]; exact H) | exact H
        have Ny252 := Aside0.mk hy252
        clear hy252
        replace H := Option.bind_eq_some_iff.mp H
        obtain ⟨⟨t255, t256, t257⟩, A110, H⟩ := H
        replace H : (if t248 = true then (if (wrap64 (1 + (Int.tmod (wrap64 (a1)) 8))) < 8 then (if 0 ≤ (IntKind.u64.wrap (wrap64 (8 * (wrap64 (1 + (Int.tmod (wrap64 (a1)) 8)))))) then (if (shl .u64 1 (IntKind.u64.wrap (wrap64 (8 * (wrap64 (1 + (Int.tmod (wrap64 (a1)) 8))))))) = 0 then (none) else (if t247 = (Int.tmod a0 (shl .u64 1 (IntKind.u64.wrap (wrap64 (8 * (wrap64 (1 + (Int.tmod (wrap64 (a1)) 8)))))))) then (if (wrap64 (1 + (Int.tmod (wrap64 (a1)) 8))) = 8 then (if t247 = a0 then (if t257 = 0 then (if t255 = a0 then ((word_Uvar.f k a0).bind fun t258 => (atticlaw01_WordBack.j0 k l2 (t256 != (t258.length : Int)))) else (atticlaw01_WordBack.j0 k l2 true)) else (atticlaw01_WordBack.j0 k l2 true)) else (atticlaw01_WordBack.j0 k l2 true)) else (if t257 = 0 then (if t255 = a0 then ((word_Uvar.f k a0).bind fun t261 => (atticlaw01_WordBack.j0 k l2 (t256 != (t261.length : Int)))) else (atticlaw01_WordBack.j0 k l2 true)) else (atticlaw01_WordBack.j0 k l2 true))) else (atticlaw01_WordBack.j0 k l2 true))) else (none)) else (if (wrap64 (1 + (Int.tmod (wrap64 (a1)) 8))) = 8 then (if t247 = a0 then (if t257 = 0 then (if t255 = a0 then ((word_Uvar.f k a0).bind fun t264 => (atticlaw01_WordBack.j0 k l2 (t256 != (t264.length : Int)))) else (atticlaw01_WordBack.j0 k l2 true)) else (atticlaw01_WordBack.j0 k l2 true)) else (atticlaw01_WordBack.j0 k l2 true)) else (if t257 = 0 then (if t255 = a0 then ((word_Uvar.f k a0).bind fun t267 => (atticlaw01_WordBack.j0 k l2 (t256 != (t267.length : Int)))) else (atticlaw01_WordBack.j0 k l2 true)) else (atticlaw01_WordBack.j0 k l2 true)))) else (atticlaw01_WordBack.j0 k l2 true)) = some r := H
        have A11 := Aside0.mk A110
        clear A110
        have HC12 := Aside0.mk H
        clear H
        go_enter Try.func8, Try.ntmps8
        go_upto_region 6 with (first | ((with_reducible refine gate_callee (f := 11) rfl ?_); refine goesL_ (some 15) rfl rfl Try.func11 (by kernel_rfl) rfl #[] rfl (by (try simp only [List.map_toArray, List.map_cons, List.map_nil]); first | done | rfl | (simp only [List.length_drop, List.length_take]; rfl)) ?_; (with_reducible refine (atticlaw01_live.calls  true _ A4.out).mono ?_); rintro e w13 ⟨rfl, hb⟩; refine ⟨_, rfl, ?_⟩; have n0_ := Aside0.mk (below_step (by repeat (first | (with_reducible first | exact HB.out | apply below_alloc | apply pw_below_drewN | apply below_drew1) | exact HB.out)) hb); clear HB; have HB := n0_; clear n0_; (try clear hb); (try clear hb2); (try clear hk); (try clear hi)) | ((with_reducible refine gate_callee (f := 17) rfl ?_); refine goesL_ (some 24) rfl rfl Try.func17 (by kernel_rfl) rfl #[.int .i64 (wrap64 (1 + (Int.tmod (wrap64 (a1)) 8))), .int .u64 a0] rfl (by (try simp only [List.map_toArray, List.map_cons, List.map_nil]); first | done | rfl | (simp only [List.length_drop, List.length_take]; rfl)) ?_; (with_reducible refine (word_Num.calls k (wrap64 (1 + (Int.tmod (wrap64 (a1)) 8))) a0 t241 _ A6.out).mono ?_); rintro e w14 ⟨v242, rfl, ho0, hb⟩; refine ⟨_, rfl, ?_⟩; have n0_ := Aside0.mk (Kd.R_lower ho0 (below_size (by repeat (first | (with_reducible first | exact HB.out | apply below_alloc | apply pw_below_drewN | apply below_drew1) | exact HB.out)))); have n1_ := Aside0.mk (below_step (by repeat (first | (with_reducible first | exact HB.out | apply below_alloc | apply pw_below_drewN | apply below_drew1) | exact HB.out)) hb); clear HB; have HO243 := n0_; have HB := n1_; clear n0_ n1_; (try clear hb); (try clear hb2); (try clear hk); (try clear hi); (try clear ho0)) | ((with_reducible refine gate_builtin (b := .append) (xs := #[.tmp 24, .tmp 25]) rfl ?_); (try (refine gate_guard (by rfl) ?_; dsimp only)); at_builtin; refine Kd.R_append_rows (Kd.int .u8) (w0 := w) w.heap.size rfl (.tmp 24) (.tmp 25) 22 5 (.int .u8 0) 1 rfl Try.underlying22 info5 rfl (by decide) (by omega) v242 t241 l2 _ _ _ (fun _ => True) (fun _ => False) rfl rfl ?aO ?aR (fun _ _ h => h) (fun _ h => h.elim) ?aF ?aB ?aS ?aL ?_; (case aR => repeat (first | exact (Kd.C_below HR2.out HB.out) | (with_reducible refine Kd.C_alloc ?_ _) | (with_reducible refine Kd.C_drewN ?_ _) | (with_reducible refine Kd.C_drew ?_))); (case aB => exact (by repeat (first | (with_reducible first | exact HB.out | apply below_alloc | apply pw_below_drewN | apply below_drew1) | exact HB.out))); (case aF => exact (fun _ _ => trivial)); (case aO => exact (by (with_reducible repeat (first | apply Kd.R_alloc | apply Kd.R_drewN | apply Kd.R_drew)); exact HO243.out)); (case aS => exact (below_size (by repeat (first | (with_reducible first | exact HB.out | apply below_alloc | apply pw_below_drewN | apply below_drew1) | exact HB.out)))); (case aL => have := LMc7.out; omega); intro v245 w15 ho hb hg hat; (try rw [List.nil_append] at ho); rw [← Ny244.out] at ho; have n0_ := Aside0.mk (hb); have n1_ := Aside0.mk (ho); clear HB; clear HO243; have HB := n0_; have HO246 := n1_; clear n0_ n1_; clear ho hb hg hat; obtain ⟨Ao16, co16, eo16⟩ := Kd.R_slice HO246.out; subst eo16) | ((with_reducible refine gate_callee (f := 14) rfl ?_); refine goesL_ (some 28) rfl rfl Try.func14 (by kernel_rfl) rfl #[.slice Ao16 y244.length co16, .int .i64 0, .int .i64 (wrap64 (1 + (Int.tmod (wrap64 (a1)) 8)))] rfl (by (try simp only [List.map_toArray, List.map_cons, List.map_nil]); first | done | rfl | (simp only [List.length_drop, List.length_take]; rfl)) ?_; (with_reducible refine (word_Get.calls k _ _ y244 0 (wrap64 (1 + (Int.tmod (wrap64 (a1)) 8))) t247 t248 _ ?side1 ?side2 A8.out).mono ?_); (case side1 => repeat (first | exact (Kd.R_reads' HO246.out).2.2 | (with_reducible refine Kd.C_alloc ?_ _) | (with_reducible refine Kd.C_drewN ?_ _) | (with_reducible refine Kd.C_drew ?_))); (case side2 => exact (Kd.R_reads' HO246.out).2.1); rintro e w' ⟨rfl, ⟨nd, rfl⟩⟩; refine ⟨_, rfl, ?_⟩) | ((with_reducible refine gate_callee (f := 21) rfl ?_); refine goesL_ (some 33) rfl rfl Try.func21 (by kernel_rfl) rfl #[.int .u64 a0] rfl (by (try simp only [List.map_toArray, List.map_cons, List.map_nil]); first | done | rfl | (simp only [List.length_drop, List.length_take]; rfl)) ?_; (with_reducible refine (word_Uvar.calls k a0 t249 _ A9.out).mono ?_); rintro e w17 ⟨v250, rfl, ho0, hb⟩; refine ⟨_, rfl, ?_⟩; have n0_ := Aside0.mk (Kd.R_elder' (by (with_reducible repeat (first | apply Kd.R_alloc | apply Kd.R_drewN | apply Kd.R_drew)); exact HO246.out) (Kd.R_base ho0) hb); have n1_ := Aside0.mk (Kd.R_lower (Kd.R_new' ho0 (Kd.R_lt (by (with_reducible repeat (first | apply Kd.R_alloc | apply Kd.R_drewN | apply Kd.R_drew)); exact HO246.out))) (below_size (by repeat (first | (with_reducible first | exact HB.out | apply below_alloc | apply pw_below_drewN | apply below_drew1) | exact HB.out)))); have n2_ := Aside0.mk (below_step (by repeat (first | (with_reducible first | exact HB.out | apply below_alloc | apply pw_below_drewN | apply below_drew1) | exact HB.out)) hb); clear HO246; clear HB; have HO246 := n0_; have HO251 := n1_; have HB := n2_; clear n0_ n1_ n2_; (try clear hb); (try clear hb2); (try clear hk); (try clear hi); (try clear ho0)) | ((with_reducible refine gate_builtin (b := .append) (xs := #[.tmp 33, .tmp 34]) rfl ?_); (try (refine gate_guard (by rfl) ?_; dsimp only)); at_builtin; refine Kd.R_append_rows (Kd.int .u8) (w0 := w) w.heap.size rfl (.tmp 33) (.tmp 34) 22 5 (.int .u8 0) 1 rfl Try.underlying22 info5 rfl (by decide) (by omega) v250 t249 l2 _ _ _ (fun k_ => some k_ ≠ (.slice Ao16 y244.length co16 : Value).ownBlock) (fun _ => False) rfl rfl ?aO ?aR (fun _ _ h => h) (fun _ h => h.elim) ?aF ?aB ?aS ?aL ?_; (case aR => repeat (first | exact (Kd.C_below HR2.out HB.out) | (with_reducible refine Kd.C_alloc ?_ _) | (with_reducible refine Kd.C_drewN ?_ _) | (with_reducible refine Kd.C_drew ?_))); (case aB => exact (by repeat (first | (with_reducible first | exact HB.out | apply below_alloc | apply pw_below_drewN | apply below_drew1) | exact HB.out))); (case aF => exact (fun k_ hk => Kd.fresh' (Kd.R_lt (by (with_reducible repeat (first | apply Kd.R_alloc | apply Kd.R_drewN | apply Kd.R_drew)); exact HO246.out)) k_ hk)); (case aO => exact (by (with_reducible repeat (first | apply Kd.R_alloc | apply Kd.R_drewN | apply Kd.R_drew)); exact Kd.R_mono HO251.out (fun _ hk => hk.2))); (case aS => exact (below_size (by repeat (first | (with_reducible first | exact HB.out | apply below_alloc | apply pw_below_drewN | apply below_drew1) | exact HB.out)))); (case aL => have := LMc10.out; omega); intro v253 w18 ho hb hg hat; (try rw [List.nil_append] at ho); rw [← Ny252.out] at ho; have n0_ := Aside0.mk (Kd.R_after (ok := (fun _ => True)) (by (with_reducible repeat (first | apply Kd.R_alloc | apply Kd.R_drewN | apply Kd.R_drew)); exact HO246.out) hg hat); have n1_ := Aside0.mk (hb); have n2_ := Aside0.mk (ho); clear HO246; clear HB; clear HO251; have HO246 := n0_; have HB := n1_; have HO254 := n2_; clear n0_ n1_ n2_; clear ho hb hg hat; obtain ⟨Ao19, co19, eo19⟩ := Kd.R_slice HO254.out; subst eo19) | ((with_reducible refine gate_callee (f := 19) rfl ?_); refine goesL_ (some 36) rfl rfl Try.func19 (by kernel_rfl) rfl #[.slice Ao19 y252.length co19] rfl (by (try simp only [List.map_toArray, List.map_cons, List.map_nil]); first | done | rfl | (simp only [List.length_drop, List.length_take]; rfl)) ?_; (with_reducible refine (word_TakeUvar.calls k _ _ y252 t255 t256 t257 _ ?side1 ?side2 A11.out).mono ?_); (case side1 => repeat (first | exact (Kd.R_reads' HO254.out).2.2 | (with_reducible refine Kd.C_alloc ?_ _) | (with_reducible refine Kd.C_drewN ?_ _) | (with_reducible refine Kd.C_drew ?_))); (case side2 => exact (Kd.R_reads' HO254.out).2.1); rintro e w20 ⟨rfl, hb⟩; refine ⟨_, rfl, ?_⟩; have n0_ := Aside0.mk (Kd.R_below (by (with_reducible repeat (first | apply Kd.R_alloc | apply Kd.R_drewN | apply Kd.R_drew)); exact HO246.out) hb); have n1_ := Aside0.mk (Kd.R_below (by (with_reducible repeat (first | apply Kd.R_alloc | apply Kd.R_drewN | apply Kd.R_drew)); exact HO254.out) hb); have n2_ := Aside0.mk (below_step (by repeat (first | (with_reducible first | exact HB.out | apply below_alloc | apply pw_below_drewN | apply below_drew1) | exact HB.out)) hb); clear HO246; clear HO254; clear HB; have HO246 := n0_; have HO254 := n1_; have HB := n2_; clear n0_ n1_ n2_; (try clear hb); (try clear hb2); (try clear hk); (try clear hi)))
        (try simp only [Act.put, List.setIfInBounds_toArray, List.set_cons_zero, List.set_cons_succ])
        go_cut [80] (fun v80 wc => ∃ (kq : Nat) (x80_11 : Bool), v80 = .bool x80_11 ∧ Aside0 (atticlaw01_WordBack.j0 kq l2 x80_11 = some r) ∧ Aside0 (kq ≤ k) ∧ Aside0 (Below w.heap.size w wc))
        case first =>
          have H := HC12.out
          clear HC12
          by_cases c21 : t248 = true
          · subst c21
            have H1 : (if (wrap64 (1 + (Int.tmod (wrap64 (a1)) 8))) < 8 then (if 0 ≤ (IntKind.u64.wrap (wrap64 (8 * (wrap64 (1 + (Int.tmod (wrap64 (a1)) 8)))))) then (if (shl .u64 1 (IntKind.u64.wrap (wrap64 (8 * (wrap64 (1 + (Int.tmod (wrap64 (a1)) 8))))))) = 0 then (none) else (if t247 = (Int.tmod a0 (shl .u64 1 (IntKind.u64.wrap (wrap64 (8 * (wrap64 (1 + (Int.tmod (wrap64 (a1)) 8)))))))) then (if (wrap64 (1 + (Int.tmod (wrap64 (a1)) 8))) = 8 then (if t247 = a0 then (if t257 = 0 then (if t255 = a0 then ((word_Uvar.f k a0).bind fun t258 => (atticlaw01_WordBack.j0 k l2 (t256 != (t258.length : Int)))) else (atticlaw01_WordBack.j0 k l2 true)) else (atticlaw01_WordBack.j0 k l2 true)) else (atticlaw01_WordBack.j0 k l2 true)) else (if t257 = 0 then (if t255 = a0 then ((word_Uvar.f k a0).bind fun t261 => (atticlaw01_WordBack.j0 k l2 (t256 != (t261.length : Int)))) else (atticlaw01_WordBack.j0 k l2 true)) else (atticlaw01_WordBack.j0 k l2 true))) else (atticlaw01_WordBack.j0 k l2 true))) else (none)) else (if (wrap64 (1 + (Int.tmod (wrap64 (a1)) 8))) = 8 then (if t247 = a0 then (if t257 = 0 then (if t255 = a0 then ((word_Uvar.f k a0).bind fun t264 => (atticlaw01_WordBack.j0 k l2 (t256 != (t264.length : Int)))) else (atticlaw01_WordBack.j0 k l2 true)) else (atticlaw01_WordBack.j0 k l2 true)) else (atticlaw01_WordBack.j0 k l2 true)) else (if t257 = 0 then (if t255 = a0 then ((word_Uvar.f k a0).bind fun t267 => (atticlaw01_WordBack.j0 k l2 (t256 != (t267.length : Int)))) else (atticlaw01_WordBack.j0 k l2 true)) else (atticlaw01_WordBack.j0 k l2 true)))) = some r := by rw [if_pos rfl] at H; exact H
            clear H
            have H := H1
            clear H1
            by_cases c22 : (wrap64 (1 + (Int.tmod (wrap64 (a1)) 8))) < 8
            · rw [if_pos c22] at H
              have c22b0 : decide ((wrap64 (1 + (Int.tmod (wrap64 (a1)) 8))) < 8) = true := decide_eq_true c22
              clear c22
              (first | rw [c22b0] | (simp only [i64_w, i32_w]; rw [c22b0]) | skip)
              obtain ⟨ji23, hji23⟩ : ∃ j_ : Int, (IntKind.u64.wrap (wrap64 (8 * (wrap64 (1 + (Int.tmod (wrap64 (a1)) 8)))))) = j_ := ⟨_, rfl⟩
              replace H : (if 0 ≤ (ji23) then (if (shl .u64 1 (ji23)) = 0 then (none) else (if t247 = (Int.tmod a0 (shl .u64 1 (ji23))) then (if (wrap64 (1 + (Int.tmod (wrap64 (a1)) 8))) = 8 then (if t247 = a0 then (if t257 = 0 then (if t255 = a0 then ((word_Uvar.f k a0).bind fun t258 => (atticlaw01_WordBack.j0 k l2 (t256 != (t258.length : Int)))) else (atticlaw01_WordBack.j0 k l2 true)) else (atticlaw01_WordBack.j0 k l2 true)) else (atticlaw01_WordBack.j0 k l2 true)) else (if t257 = 0 then (if t255 = a0 then ((word_Uvar.f k a0).bind fun t261 => (atticlaw01_WordBack.j0 k l2 (t256 != (t261.length : Int)))) else (atticlaw01_WordBack.j0 k l2 true)) else (atticlaw01_WordBack.j0 k l2 true))) else (atticlaw01_WordBack.j0 k l2 true))) else (none)) = some r := by first | (rw [hji23] at H; exact H) | (simp only [hji23] at H ⊢; exact H)
              by_cases c24 : 0 ≤ (ji23)
              · rw [if_pos c24] at H
                have c24b0 := eq_true c24
                have c24b1 : decide (0 ≤ (ji23)) = true := decide_eq_true c24
                clear c24
                obtain ⟨ji25, hji25⟩ : ∃ j_ : Int, (shl .u64 1 (ji23)) = j_ := ⟨_, rfl⟩
                replace H : (if (ji25) = 0 then (none) else (if t247 = (Int.tmod a0 (ji25)) then (if (wrap64 (1 + (Int.tmod (wrap64 (a1)) 8))) = 8 then (if t247 = a0 then (if t257 = 0 then (if t255 = a0 then ((word_Uvar.f k a0).bind fun t258 => (atticlaw01_WordBack.j0 k l2 (t256 != (t258.length : Int)))) else (atticlaw01_WordBack.j0 k l2 true)) else (atticlaw01_WordBack.j0 k l2 true)) else (atticlaw01_WordBack.j0 k l2 true)) else (if t257 = 0 then (if t255 = a0 then ((word_Uvar.f k a0).bind fun t261 => (atticlaw01_WordBack.j0 k l2 (t256 != (t261.length : Int)))) else (atticlaw01_WordBack.j0 k l2 true)) else (atticlaw01_WordBack.j0 k l2 true))) else (atticlaw01_WordBack.j0 k l2 true))) = some r := by first | (rw [hji25] at H; exact H) | (simp only [hji25] at H ⊢; exact H)
                have hji25_ : (IntKind.u64.wrap (1 * 2 ^ min (ji23).toNat 64)) = ji25 := hji25
                have hji25z : (ji23) ≤ 64 → (IntKind.u64.wrap (1 * 2 ^ (ji23).toNat)) = ji25 := shl_small hji25
                have hji25u : (IntKind.u64.wrap (2 ^ min (ji23).toNat 64)) = ji25 := by have h_ := hji25_; rw [Int.one_mul] at h_; exact h_
                have hji25v : (ji23) ≤ 64 → (IntKind.u64.wrap (2 ^ (ji23).toNat)) = ji25 := fun hle_ => by have h_ := hji25z hle_; rw [Int.one_mul] at h_; exact h_
                by_cases c26 : (ji25) = 0
                · rw [if_pos c26] at H
                  exact absurd H (by simp)
                · rw [if_neg c26] at H
                  have c26b0 : ((ji25) == 0) = false := beq_eq_false_iff_ne.mpr c26
                  have c26b1 : ((ji25) != 0) = true := bne_iff_ne.mpr c26
                  by_cases c27 : t247 = (Int.tmod a0 (ji25))
                  · rw [if_pos c27] at H
                    have c27b0 : (t247 == (Int.tmod a0 (ji25))) = true := beq_iff_eq.mpr c27
                    have c27b1 : (t247 != (Int.tmod a0 (ji25))) = false := bne_eq_false_iff_eq.mpr c27
                    clear c27
                    by_cases c28 : (wrap64 (1 + (Int.tmod (wrap64 (a1)) 8))) = 8
                    · rw [if_pos c28] at H
                      have c28b0 : ((wrap64 (1 + (Int.tmod (wrap64 (a1)) 8))) == 8) = true := beq_iff_eq.mpr c28
                      have c28b1 : ((wrap64 (1 + (Int.tmod (wrap64 (a1)) 8))) != 8) = false := bne_eq_false_iff_eq.mpr c28
                      clear c28
                      by_cases c29 : t247 = a0
                      · rw [if_pos c29] at H
                        have c29b0 : (t247 == a0) = true := beq_iff_eq.mpr c29
                        have c29b1 : (t247 != a0) = false := bne_eq_false_iff_eq.mpr c29
                        clear c29
                        by_cases c30 : t257 = 0
                        · rw [if_pos c30] at H
                          have c30b0 : (t257 == 0) = true := beq_iff_eq.mpr c30
                          have c30b1 : (t257 != 0) = false := bne_eq_false_iff_eq.mpr c30
                          clear c30
                          by_cases c31 : t255 = a0
                          · rw [if_pos c31] at H
                            have c31b0 : (t255 == a0) = true := beq_iff_eq.mpr c31
                            have c31b1 : (t255 != a0) = false := bne_eq_false_iff_eq.mpr c31
                            clear c31
                            replace H := Option.bind_eq_some_iff.mp H
                            obtain ⟨t258, A320, H⟩ := H
                            replace H : (atticlaw01_WordBack.j0 k l2 (t256 != (t258.length : Int))) = some r := H
                            have A32 := Aside0.mk A320
                            clear A320
                            have H' := Aside0.mk H
                            clear H
                            go_wp2_with (first | (go_at_call 21; (with_reducible refine (word_Uvar.calls k a0 t258 _ A32.out).mono ?_); rintro e w33 ⟨v259, rfl, ho0, hb⟩; have n0_ := Aside0.mk (Kd.R_elder' (by (with_reducible repeat (first | apply Kd.R_alloc | apply Kd.R_drewN | apply Kd.R_drew)); exact HO246.out) (Kd.R_base ho0) hb); have n1_ := Aside0.mk (Kd.R_elder' (by (with_reducible repeat (first | apply Kd.R_alloc | apply Kd.R_drewN | apply Kd.R_drew)); exact HO254.out) (Kd.R_base ho0) hb); have n2_ := Aside0.mk (Kd.R_lower (Kd.R_new' (Kd.R_new' ho0 (Kd.R_lt (by (with_reducible repeat (first | apply Kd.R_alloc | apply Kd.R_drewN | apply Kd.R_drew)); exact HO246.out))) (Kd.R_lt (by (with_reducible repeat (first | apply Kd.R_alloc | apply Kd.R_drewN | apply Kd.R_drew)); exact HO254.out))) (below_size (by repeat (first | (with_reducible first | exact HB.out | apply below_alloc | apply pw_below_drewN | apply below_drew1) | exact HB.out)))); have n3_ := Aside0.mk (below_step (by repeat (first | (with_reducible first | exact HB.out | apply below_alloc | apply pw_below_drewN | apply below_drew1) | exact HB.out)) hb); clear HO246; clear HO254; clear HB; have HO246 := n0_; have HO254 := n1_; have HO260 := n2_; have HB := n3_; clear n0_ n1_ n2_ n3_; (try clear hb); (try clear hb2); (try clear hk); (try clear hi); (try clear ho0); obtain ⟨Ao34, co34, eo34⟩ := Kd.R_slice HO260.out; subst eo34))
                            go_meet
                            case rel => exact ⟨_, ((t256 != (t258.length : Int))), (by first | rfl | (simp; done) | (simp [*]; done)), H', ⟨by first | omega | exact Nat.le_refl _⟩, ⟨by repeat (first | (with_reducible first | exact HB.out | apply below_alloc | apply pw_below_drewN | apply below_drew1) | exact HB.out)⟩⟩
                          · rw [if_neg c31] at H
                            have c31b0 : (t255 == a0) = false := beq_eq_false_iff_ne.mpr c31
                            have c31b1 : (t255 != a0) = true := bne_iff_ne.mpr c31
                            have H' := Aside0.mk H
                            clear H
                            go_wp2
                            go_meet
                            case rel => exact ⟨_, (true), (by first | rfl | (simp; done) | (simp [*]; done)), H', ⟨by first | omega | exact Nat.le_refl _⟩, ⟨by repeat (first | (with_reducible first | exact HB.out | apply below_alloc | apply pw_below_drewN | apply below_drew1) | exact HB.out)⟩⟩
                        · rw [if_neg c30] at H
                          have c30b0 : (t257 == 0) = false := beq_eq_false_iff_ne.mpr c30
                          have c30b1 : (t257 != 0) = true := bne_iff_ne.mpr c30
                          have H' := Aside0.mk H
                          clear H
                          go_wp2
                          go_meet
                          case rel => exact ⟨_, (true), (by first | rfl | (simp; done) | (simp [*]; done)), H', ⟨by first | omega | exact Nat.le_refl _⟩, ⟨by repeat (first | (with_reducible first | exact HB.out | apply below_alloc | apply pw_below_drewN | apply below_drew1) | exact HB.out)⟩⟩
                      · rw [if_neg c29] at H
                        have c29b0 : (t247 == a0) = false := beq_eq_false_iff_ne.mpr c29
                        have c29b1 : (t247 != a0) = true := bne_iff_ne.mpr c29
                        have H' := Aside0.mk H
                        clear H
                        go_wp2
                        go_meet
                        case rel => exact ⟨_, (true), (by first | rfl | (simp; done) | (simp [*]; done)), H', ⟨by first | omega | exact Nat.le_refl _⟩, ⟨by repeat (first | (with_reducible first | exact HB.out | apply below_alloc | apply pw_below_drewN | apply below_drew1) | exact HB.out)⟩⟩
                    · rw [if_neg c28] at H
                      have c28b0 : ((wrap64 (1 + (Int.tmod (wrap64 (a1)) 8))) == 8) = false := beq_eq_false_iff_ne.mpr c28
                      have c28b1 : ((wrap64 (1 + (Int.tmod (wrap64 (a1)) 8))) != 8) = true := bne_iff_ne.mpr c28
                      by_cases c35 : t257 = 0
                      · rw [if_pos c35] at H
                        have c35b0 : (t257 == 0) = true := beq_iff_eq.mpr c35
                        have c35b1 : (t257 != 0) = false := bne_eq_false_iff_eq.mpr c35
                        clear c35
                        by_cases c36 : t255 = a0
                        · rw [if_pos c36] at H
                          have c36b0 : (t255 == a0) = true := beq_iff_eq.mpr c36
                          have c36b1 : (t255 != a0) = false := bne_eq_false_iff_eq.mpr c36
                          clear c36
                          replace H := Option.bind_eq_some_iff.mp H
                          obtain ⟨t261, A370, H⟩ := H
                          replace H : (atticlaw01_WordBack.j0 k l2 (t256 != (t261.length : Int))) = some r := H
                          have A37 := Aside0.mk A370
                          clear A370
                          have H' := Aside0.mk H
                          clear H
                          go_wp2_with (first | (go_at_call 21; (with_reducible refine (word_Uvar.calls k a0 t261 _ A37.out).mono ?_); rintro e w38 ⟨v262, rfl, ho0, hb⟩; have n0_ := Aside0.mk (Kd.R_elder' (by (with_reducible repeat (first | apply Kd.R_alloc | apply Kd.R_drewN | apply Kd.R_drew)); exact HO246.out) (Kd.R_base ho0) hb); have n1_ := Aside0.mk (Kd.R_elder' (by (with_reducible repeat (first | apply Kd.R_alloc | apply Kd.R_drewN | apply Kd.R_drew)); exact HO254.out) (Kd.R_base ho0) hb); have n2_ := Aside0.mk (Kd.R_lower (Kd.R_new' (Kd.R_new' ho0 (Kd.R_lt (by (with_reducible repeat (first | apply Kd.R_alloc | apply Kd.R_drewN | apply Kd.R_drew)); exact HO246.out))) (Kd.R_lt (by (with_reducible repeat (first | apply Kd.R_alloc | apply Kd.R_drewN | apply Kd.R_drew)); exact HO254.out))) (below_size (by repeat (first | (with_reducible first | exact HB.out | apply below_alloc | apply pw_below_drewN | apply below_drew1) | exact HB.out)))); have n3_ := Aside0.mk (below_step (by repeat (first | (with_reducible first | exact HB.out | apply below_alloc | apply pw_below_drewN | apply below_drew1) | exact HB.out)) hb); clear HO246; clear HO254; clear HB; have HO246 := n0_; have HO254 := n1_; have HO263 := n2_; have HB := n3_; clear n0_ n1_ n2_ n3_; (try clear hb); (try clear hb2); (try clear hk); (try clear hi); (try clear ho0); obtain ⟨Ao39, co39, eo39⟩ := Kd.R_slice HO263.out; subst eo39))
                          go_meet
                          case rel => exact ⟨_, ((t256 != (t261.length : Int))), (by first | rfl | (simp; done) | (simp [*]; done)), H', ⟨by first | omega | exact Nat.le_refl _⟩, ⟨by repeat (first | (with_reducible first | exact HB.out | apply below_alloc | apply pw_below_drewN | apply below_drew1) | exact HB.out)⟩⟩
                        · rw [if_neg c36] at H
                          have c36b0 : (t255 == a0) = false := beq_eq_false_iff_ne.mpr c36
                          have c36b1 : (t255 != a0) = true := bne_iff_ne.mpr c36
                          have H' := Aside0.mk H
                          clear H
                          go_wp2
                          go_meet
                          case rel => exact ⟨_, (true), (by first | rfl | (simp; done) | (simp [*]; done)), H', ⟨by first | omega | exact Nat.le_refl _⟩, ⟨by repeat (first | (with_reducible first | exact HB.out | apply below_alloc | apply pw_below_drewN | apply below_drew1) | exact HB.out)⟩⟩
                      · rw [if_neg c35] at H
                        have c35b0 : (t257 == 0) = false := beq_eq_false_iff_ne.mpr c35
                        have c35b1 : (t257 != 0) = true := bne_iff_ne.mpr c35
                        have H' := Aside0.mk H
                        clear H
                        go_wp2
                        go_meet
                        case rel => exact ⟨_, (true), (by first | rfl | (simp; done) | (simp [*]; done)), H', ⟨by first | omega | exact Nat.le_refl _⟩, ⟨by repeat (first | (with_reducible first | exact HB.out | apply below_alloc | apply pw_below_drewN | apply below_drew1) | exact HB.out)⟩⟩
                  · rw [if_neg c27] at H
                    have c27b0 : (t247 == (Int.tmod a0 (ji25))) = false := beq_eq_false_iff_ne.mpr c27
                    have c27b1 : (t247 != (Int.tmod a0 (ji25))) = true := bne_iff_ne.mpr c27
                    have H' := Aside0.mk H
                    clear H
                    go_wp2
                    go_meet
                    case rel => exact ⟨_, (true), (by first | rfl | (simp; done) | (simp [*]; done)), H', ⟨by first | omega | exact Nat.le_refl _⟩, ⟨by repeat (first | (with_reducible first | exact HB.out | apply below_alloc | apply pw_below_drewN | apply below_drew1) | exact HB.out)⟩⟩
              · rw [if_neg c24] at H
                exact absurd H (by simp)
            · rw [if_neg c22] at H
              have c22b0 : decide ((wrap64 (1 + (Int.tmod (wrap64 (a1)) 8))) < 8) = false := decide_eq_false c22
              clear c22
              (first | rw [c22b0] | (simp only [i64_w, i32_w]; rw [c22b0]) | skip)
              by_cases c40 : (wrap64 (1 + (Int.tmod (wrap64 (a1)) 8))) = 8
              · rw [if_pos c40] at H
                have c40b0 : ((wrap64 (1 + (Int.tmod (wrap64 (a1)) 8))) == 8) = true := beq_iff_eq.mpr c40
                have c40b1 : ((wrap64 (1 + (Int.tmod (wrap64 (a1)) 8))) != 8) = false := bne_eq_false_iff_eq.mpr c40
                clear c40
                by_cases c41 : t247 = a0
                · rw [if_pos c41] at H
                  have c41b0 : (t247 == a0) = true := beq_iff_eq.mpr c41
                  have c41b1 : (t247 != a0) = false := bne_eq_false_iff_eq.mpr c41
                  clear c41
                  by_cases c42 : t257 = 0
                  · rw [if_pos c42] at H
                    have c42b0 : (t257 == 0) = true := beq_iff_eq.mpr c42
                    have c42b1 : (t257 != 0) = false := bne_eq_false_iff_eq.mpr c42
                    clear c42
                    by_cases c43 : t255 = a0
                    · rw [if_pos c43] at H
                      have c43b0 : (t255 == a0) = true := beq_iff_eq.mpr c43
                      have c43b1 : (t255 != a0) = false := bne_eq_false_iff_eq.mpr c43
                      clear c43
                      replace H := Option.bind_eq_some_iff.mp H
                      obtain ⟨t264, A440, H⟩ := H
                      replace H : (atticlaw01_WordBack.j0 k l2 (t256 != (t264.length : Int))) = some r := H
                      have A44 := Aside0.mk A440
                      clear A440
                      have H' := Aside0.mk H
                      clear H
                      go_wp2_with (first | (go_at_call 21; (with_reducible refine (word_Uvar.calls k a0 t264 _ A44.out).mono ?_); rintro e w45 ⟨v265, rfl, ho0, hb⟩; have n0_ := Aside0.mk (Kd.R_elder' (by (with_reducible repeat (first | apply Kd.R_alloc | apply Kd.R_drewN | apply Kd.R_drew)); exact HO246.out) (Kd.R_base ho0) hb); have n1_ := Aside0.mk (Kd.R_elder' (by (with_reducible repeat (first | apply Kd.R_alloc | apply Kd.R_drewN | apply Kd.R_drew)); exact HO254.out) (Kd.R_base ho0) hb); have n2_ := Aside0.mk (Kd.R_lower (Kd.R_new' (Kd.R_new' ho0 (Kd.R_lt (by (with_reducible repeat (first | apply Kd.R_alloc | apply Kd.R_drewN | apply Kd.R_drew)); exact HO246.out))) (Kd.R_lt (by (with_reducible repeat (first | apply Kd.R_alloc | apply Kd.R_drewN | apply Kd.R_drew)); exact HO254.out))) (below_size (by repeat (first | (with_reducible first | exact HB.out | apply below_alloc | apply pw_below_drewN | apply below_drew1) | exact HB.out)))); have n3_ := Aside0.mk (below_step (by repeat (first | (with_reducible first | exact HB.out | apply below_alloc | apply pw_below_drewN | apply below_drew1) | exact HB.out)) hb); clear HO246; clear HO254; clear HB; have HO246 := n0_; have HO254 := n1_; have HO266 := n2_; have HB := n3_; clear n0_ n1_ n2_ n3_; (try clear hb); (try clear hb2); (try clear hk); (try clear hi); (try clear ho0); obtain ⟨Ao46, co46, eo46⟩ := Kd.R_slice HO266.out; subst eo46))
                      go_meet
                      case rel => exact ⟨_, ((t256 != (t264.length : Int))), (by first | rfl | (simp; done) | (simp [*]; done)), H', ⟨by first | omega | exact Nat.le_refl _⟩, ⟨by repeat (first | (with_reducible first | exact HB.out | apply below_alloc | apply pw_below_drewN | apply below_drew1) | exact HB.out)⟩⟩
                    · rw [if_neg c43] at H
                      have c43b0 : (t255 == a0) = false := beq_eq_false_iff_ne.mpr c43
                      have c43b1 : (t255 != a0) = true := bne_iff_ne.mpr c43
                      have H' := Aside0.mk H
                      clear H
                      go_wp2
                      go_meet
                      case rel => exact ⟨_, (true), (by first | rfl | (simp; done) | (simp [*]; done)), H', ⟨by first | omega | exact Nat.le_refl _⟩, ⟨by repeat (first | (with_reducible first | exact HB.out | apply below_alloc | apply pw_below_drewN | apply below_drew1) | exact HB.out)⟩⟩
                  · rw [if_neg c42] at H
                    have c42b0 : (t257 == 0) = false := beq_eq_false_iff_ne.mpr c42
                    have c42b1 : (t257 != 0) = true := bne_iff_ne.mpr c42
                    have H' := Aside0.mk H
                    clear H
                    go_wp2
                    go_meet
                    case rel => exact ⟨_, (true), (by first | rfl | (simp; done) | (simp [*]; done)), H', ⟨by first | omega | exact Nat.le_refl _⟩, ⟨by repeat (first | (with_reducible first | exact HB.out | apply below_alloc | apply pw_below_drewN | apply below_drew1) | exact HB.out)⟩⟩
                · rw [if_neg c41] at H
                  have c41b0 : (t247 == a0) = false := beq_eq_false_iff_ne.mpr c41
                  have c41b1 : (t247 != a0) = true := bne_iff_ne.mpr c41
                  have H' := Aside0.mk H
                  clear H
                  go_wp2
                  go_meet
                  case rel => exact ⟨_, (true), (by first | rfl | (simp; done) | (simp [*]; done)), H', ⟨by first | omega | exact Nat.le_refl _⟩, ⟨by repeat (first | (with_reducible first | exact HB.out | apply below_alloc | apply pw_below_drewN | apply below_drew1) | exact HB.out)⟩⟩
              · rw [if_neg c40] at H
                have c40b0 : ((wrap64 (1 + (Int.tmod (wrap64 (a1)) 8))) == 8) = false := beq_eq_false_iff_ne.mpr c40
                have c40b1 : ((wrap64 (1 + (Int.tmod (wrap64 (a1)) 8))) != 8) = true := bne_iff_ne.mpr c40
                by_cases c47 : t257 = 0
                · rw [if_pos c47] at H
                  have c47b0 : (t257 == 0) = true := beq_iff_eq.mpr c47
                  have c47b1 : (t257 != 0) = false := bne_eq_false_iff_eq.mpr c47
                  clear c47
                  by_cases c48 : t255 = a0
                  · rw [if_pos c48] at H
                    have c48b0 : (t255 == a0) = true := beq_iff_eq.mpr c48
                    have c48b1 : (t255 != a0) = false := bne_eq_false_iff_eq.mpr c48
                    clear c48
                    replace H := Option.bind_eq_some_iff.mp H
                    obtain ⟨t267, A490, H⟩ := H
                    replace H : (atticlaw01_WordBack.j0 k l2 (t256 != (t267.length : Int))) = some r := H
                    have A49 := Aside0.mk A490
                    clear A490
                    have H' := Aside0.mk H
                    clear H
                    go_wp2_with (first | (go_at_call 21; (with_reducible refine (word_Uvar.calls k a0 t267 _ A49.out).mono ?_); rintro e w50 ⟨v268, rfl, ho0, hb⟩; have n0_ := Aside0.mk (Kd.R_elder' (by (with_reducible repeat (first | apply Kd.R_alloc | apply Kd.R_drewN | apply Kd.R_drew)); exact HO246.out) (Kd.R_base ho0) hb); have n1_ := Aside0.mk (Kd.R_elder' (by (with_reducible repeat (first | apply Kd.R_alloc | apply Kd.R_drewN | apply Kd.R_drew)); exact HO254.out) (Kd.R_base ho0) hb); have n2_ := Aside0.mk (Kd.R_lower (Kd.R_new' (Kd.R_new' ho0 (Kd.R_lt (by (with_reducible repeat (first | apply Kd.R_alloc | apply Kd.R_drewN | apply Kd.R_drew)); exact HO246.out))) (Kd.R_lt (by (with_reducible repeat (first | apply Kd.R_alloc | apply Kd.R_drewN | apply Kd.R_drew)); exact HO254.out))) (below_size (by repeat (first | (with_reducible first | exact HB.out | apply below_alloc | apply pw_below_drewN | apply below_drew1) | exact HB.out)))); have n3_ := Aside0.mk (below_step (by repeat (first | (with_reducible first | exact HB.out | apply below_alloc | apply pw_below_drewN | apply below_drew1) | exact HB.out)) hb); clear HO246; clear HO254; clear HB; have HO246 := n0_; have HO254 := n1_; have HO269 := n2_; have HB := n3_; clear n0_ n1_ n2_ n3_; (try clear hb); (try clear hb2); (try clear hk); (try clear hi); (try clear ho0); obtain ⟨Ao51, co51, eo51⟩ := Kd.R_slice HO269.out; subst eo51))
                    go_meet
                    case rel => exact ⟨_, ((t256 != (t267.length : Int))), (by first | rfl | (simp; done) | (simp [*]; done)), H', ⟨by first | omega | exact Nat.le_refl _⟩, ⟨by repeat (first | (with_reducible first | exact HB.out | apply below_alloc | apply pw_below_drewN | apply below_drew1) | exact HB.out)⟩⟩
                  · rw [if_neg c48] at H
                    have c48b0 : (t255 == a0) = false := beq_eq_false_iff_ne.mpr c48
                    have c48b1 : (t255 != a0) = true := bne_iff_ne.mpr c48
                    have H' := Aside0.mk H
                    clear H
                    go_wp2
                    go_meet
                    case rel => exact ⟨_, (true), (by first | rfl | (simp; done) | (simp [*]; done)), H', ⟨by first | omega | exact Nat.le_refl _⟩, ⟨by repeat (first | (with_reducible first | exact HB.out | apply below_alloc | apply pw_below_drewN | apply below_drew1) | exact HB.out)⟩⟩
                · rw [if_neg c47] at H
                  have c47b0 : (t257 == 0) = false := beq_eq_false_iff_ne.mpr c47
                  have c47b1 : (t257 != 0) = true := bne_iff_ne.mpr c47
                  have H' := Aside0.mk H
                  clear H
                  go_wp2
                  go_meet
                  case rel => exact ⟨_, (true), (by first | rfl | (simp; done) | (simp [*]; done)), H', ⟨by first | omega | exact Nat.le_refl _⟩, ⟨by repeat (first | (with_reducible first | exact HB.out | apply below_alloc | apply pw_below_drewN | apply below_drew1) | exact HB.out)⟩⟩
          · replace c21 := Bool.eq_false_iff.mpr c21
            subst c21
            have H1 : (atticlaw01_WordBack.j0 k l2 true) = some r := by rw [if_neg (show ¬ (false = true) by decide)] at H; exact H
            clear H
            have H := H1
            clear H1
            have H' := Aside0.mk H
            clear H
            go_wp2
            go_meet
            case rel => exact ⟨_, (true), (by first | rfl | (simp; done) | (simp [*]; done)), H', ⟨by first | omega | exact Nat.le_refl _⟩, ⟨by repeat (first | (with_reducible first | exact HB.out | apply below_alloc | apply pw_below_drewN | apply below_drew1) | exact HB.out)⟩⟩
        case rest =>
          clear HC12
          try clear c1
          try clear c2
          try clear p2
          try clear c3
          try clear c4
          try clear c5
          try clear p6
          try clear c7
          try clear c8
          try clear c10
          try clear c11
          try clear c14
          try clear c17
          try clear c19
          try clear c21
          try clear c22
          try clear c22b0
          try clear c24
          try clear c24b0
          try clear c24b1
          try clear c26
          try clear c26b0
          try clear c26b1
          try clear c27
          try clear c27b0
          try clear c27b1
          try clear c28
          try clear c28b0
          try clear c28b1
          try clear c29
          try clear c29b0
          try clear c29b1
          try clear c30
          try clear c30b0
          try clear c30b1
          try clear c31
          try clear c31b0
          try clear c31b1
          try clear c35
          try clear c35b0
          try clear c35b1
          try clear c36
          try clear c36b0
          try clear c36b1
          try clear c40
          try clear c40b0
          try clear c40b1
          try clear c41
          try clear c41b0
          try clear c41b1
          try clear c42
          try clear c42b0
          try clear c42b1
          try clear c43
          try clear c43b0
          try clear c43b1
          try clear c47
          try clear c47b0
          try clear c47b1
          try clear c48
          try clear c48b0
          try clear c48b1
          obtain ⟨kq, x80_11, rfl, HA, HJ11, HB⟩ := hcut
          cases kq with
          | zero => exact absurd HA.out (by simp [atticlaw01_WordBack.j0])
          | succ kj11 =>
            have H := HA.out
            clear HA
            simp only [atticlaw01_WordBack.j0] at H
            by_cases c52 : x80_11 = true
            · subst c52
              have H1 : (some false) = some r := by rw [if_pos rfl] at H; exact H
              clear H
              have H := H1
              clear H1
              obtain rfl := Option.some.inj H
              go_wp2
              go_ret
              exact ⟨by first | rfl | (simp [errW_none, errW_some] <;> rfl) | (simp [*, errW_none, errW_some] <;> rfl), by repeat (first | (with_reducible first | exact HB.out | apply below_alloc | apply pw_below_drewN | apply below_drew1) | exact HB.out)⟩
            · replace c52 := Bool.eq_false_iff.mpr c52
              subst c52
              have H1 : ((word_Seal.f kj11 l2).bind fun t270 => ((word_Unseal.f kj11 t270).bind fun bt273 => (if bt273.2 = 0 then ((bytes_Equal.f bt273.1 l2).bind fun t277 => (atticlaw01_WordBack.j1 kj11 l2 (!t277))) else (atticlaw01_WordBack.j1 kj11 l2 true)))) = some r := by rw [if_neg (show ¬ (false = true) by decide)] at H; exact H
              clear H
              have H := H1
              clear H1
              replace H := Option.bind_eq_some_iff.mp H
              obtain ⟨t270, A530, H⟩ := H
              replace H : ((word_Unseal.f kj11 t270).bind fun bt273 => (if bt273.2 = 0 then ((bytes_Equal.f bt273.1 l2).bind fun t277 => (atticlaw01_WordBack.j1 kj11 l2 (!t277))) else (atticlaw01_WordBack.j1 kj11 l2 true))) = some r := H
              have A53 := Aside0.mk A530
              clear A530
              replace H := Option.bind_eq_some_iff.mp H
              obtain ⟨⟨t273, t274⟩, A540, H⟩ := H
              replace H : (if t274 = 0 then ((bytes_Equal.f t273 l2).bind fun t277 => (atticlaw01_WordBack.j1 kj11 l2 (!t277))) else (atticlaw01_WordBack.j1 kj11 l2 true)) = some r := H
              have A54 := Aside0.mk A540
              clear A540
              have HC55 := Aside0.mk H
              clear H
              go_upto_region 9 with (first | ((with_reducible refine gate_callee (f := 27) rfl ?_); refine goesL_ (some 83) rfl rfl Try.func27 (by kernel_rfl) rfl #[.slice A2 l2.length c2] rfl (by (try simp only [List.map_toArray, List.map_cons, List.map_nil]); first | done | rfl | (simp only [List.length_drop, List.length_take]; rfl)) ?_; (with_reducible refine (word_Seal.calls kj11 (fun k_ => k_ < w.heap.size) _ _ l2 t270 _ ?side1 A53.out).mono ?_); (case side1 => exact Kd.V_mk HC2.out (Kd.F_below (Kd.C_F (Kd.heap_int .u8) HR2.out) (by repeat (first | (with_reducible first | exact HB.out | apply below_alloc | apply pw_below_drewN | apply below_drew1) | exact HB.out)))); rintro e w56 ⟨v271, rfl, ho0, hb⟩; refine ⟨_, rfl, ?_⟩; have n0_ := Aside0.mk (Kd.R_lower (Kd.R_mono (ok' := fun k_ => True) ho0 (fun _ hk_ => trivial)) (below_size (by repeat (first | (with_reducible first | exact HB.out | apply below_alloc | apply pw_below_drewN | apply below_drew1) | exact HB.out)))); have n1_ := Aside0.mk (below_step (by repeat (first | (with_reducible first | exact HB.out | apply below_alloc | apply pw_below_drewN | apply below_drew1) | exact HB.out)) hb); clear HB; have HO272 := n0_; have HB := n1_; clear n0_ n1_; (try clear hb); (try clear hb2); (try clear hk); (try clear hi); (try clear ho0); obtain ⟨Ao57, co57, eo57⟩ := Kd.R_slice HO272.out; subst eo57) | ((with_reducible refine gate_callee (f := 23) rfl ?_); refine goesL_ (some 84) rfl rfl Try.func23 (by kernel_rfl) rfl #[.slice Ao57 t270.length co57] rfl (by (try simp only [List.map_toArray, List.map_cons, List.map_nil]); first | done | rfl | (simp only [List.length_drop, List.length_take]; rfl)) ?_; (with_reducible refine (word_Unseal.calls kj11 _ _ t270 t273 t274 _ ?side1 ?side2 A54.out).mono ?_); (case side1 => repeat (first | exact (Kd.R_reads' HO272.out).2.2 | (with_reducible refine Kd.C_alloc ?_ _) | (with_reducible refine Kd.C_drewN ?_ _) | (with_reducible refine Kd.C_drew ?_))); (case side2 => exact (Kd.R_reads' HO272.out).2.1); rintro e w58 ⟨v275, rfl, ho0, hb⟩; refine ⟨_, rfl, ?_⟩; have n0_ := Aside0.mk (Kd.R_elder' (by (with_reducible repeat (first | apply Kd.R_alloc | apply Kd.R_drewN | apply Kd.R_drew)); exact HO272.out) (Kd.R_base ho0) hb); have n1_ := Aside0.mk (Kd.R_lower (Kd.R_new' ho0 (Kd.R_lt (by (with_reducible repeat (first | apply Kd.R_alloc | apply Kd.R_drewN | apply Kd.R_drew)); exact HO272.out))) (below_size (by repeat (first | (with_reducible first | exact HB.out | apply below_alloc | apply pw_below_drewN | apply below_drew1) | exact HB.out)))); have n2_ := Aside0.mk (below_step (by repeat (first | (with_reducible first | exact HB.out | apply below_alloc | apply pw_below_drewN | apply below_drew1) | exact HB.out)) hb); clear HO272; clear HB; have HO272 := n0_; have HO276 := n1_; have HB := n2_; clear n0_ n1_ n2_; (try clear hb); (try clear hb2); (try clear hk); (try clear hi); (try clear ho0)))
              (try simp only [Act.put, List.setIfInBounds_toArray, List.set_cons_zero, List.set_cons_succ])
              go_cut [94] (fun v94 wc => ∃ (kq : Nat) (x94_54 : Bool), v94 = .bool x94_54 ∧ Aside0 (atticlaw01_WordBack.j1 kq l2 x94_54 = some r) ∧ Aside0 (kq ≤ kj11) ∧ Aside0 (Below w.heap.size w wc))
              case first =>
                have H := HC55.out
                clear HC55
                by_cases c59 : t274 = 0
                · rw [if_pos c59] at H
                  have c59b0 : (t274 == 0) = true := beq_iff_eq.mpr c59
                  have c59b1 : (t274 != 0) = false := bne_eq_false_iff_eq.mpr c59
                  clear c59
                  (first | rw [c59b0] | (simp only [i64_w, i32_w]; rw [c59b0]) | skip)
                  replace H := Option.bind_eq_some_iff.mp H
                  obtain ⟨t277, A600, H⟩ := H
                  replace H : (atticlaw01_WordBack.j1 kj11 l2 (!t277)) = some r := H
                  have A60 := Aside0.mk A600
                  clear A600
                  have H' := Aside0.mk H
                  clear H
                  obtain ⟨Ao61, co61, eo61⟩ := Kd.R_slice HO276.out
                  subst eo61
                  go_wp2_with (first | (go_at_call 16; (with_reducible refine (bytes_Equal.calls _ _ t273 _ _ l2 t277 _ ?side1 ?side2 ?side3 ?side4 A60.out).mono ?_); (case side1 => repeat (first | exact (Kd.R_reads' HO276.out).2.2 | (with_reducible refine Kd.C_alloc ?_ _) | (with_reducible refine Kd.C_drewN ?_ _) | (with_reducible refine Kd.C_drew ?_))); (case side2 => exact (Kd.R_reads' HO276.out).2.1); (case side3 => repeat (first | exact (Kd.C_below HR2.out HB.out) | (with_reducible refine Kd.C_alloc ?_ _) | (with_reducible refine Kd.C_drewN ?_ _) | (with_reducible refine Kd.C_drew ?_))); (case side4 => exact HC2.out); rintro e w' ⟨rfl, ⟨nd, rfl⟩⟩))
                  go_meet
                  case rel => exact ⟨_, (!t277), (by first | rfl | (simp; done) | (simp [*]; done)), H', ⟨by have := HJ11.out; first | omega | exact Nat.le_refl _⟩, ⟨by repeat (first | (with_reducible first | exact HB.out | apply below_alloc | apply pw_below_drewN | apply below_drew1) | exact HB.out)⟩⟩
                · rw [if_neg c59] at H
                  have c59b0 : (t274 == 0) = false := beq_eq_false_iff_ne.mpr c59
                  have c59b1 : (t274 != 0) = true := bne_iff_ne.mpr c59
                  (first | rw [c59b0] | (simp only [i64_w, i32_w]; rw [c59b0]) | skip)
                  have H' := Aside0.mk H
                  clear H
                  go_wp2
                  go_meet
                  case rel => exact ⟨_, (true), (by first | rfl | (simp; done) | (simp [*]; done)), H', ⟨by have := HJ11.out; first | omega | exact Nat.le_refl _⟩, ⟨by repeat (first | (with_reducible first | exact HB.out | apply below_alloc | apply pw_below_drewN | apply below_drew1) | exact HB.out)⟩⟩
              case rest =>
                clear HC55
                try clear c1
                try clear c2
                try clear p2
                try clear c3
                try clear c4
                try clear c5
                try clear p6
                try clear c7
                try clear c8
                try clear c10
                try clear c11
                try clear c14
                try clear c17
                try clear c19
                try clear c21
                try clear c22
                try clear c22b0
                try clear c23
                try clear c24
                try clear c24b0
                try clear c24b1
                try clear c26
                try clear c26b0
                try clear c26b1
                try clear c27
                try clear c27b0
                try clear c27b1
                try clear c28
                try clear c28b0
                try clear c28b1
                try clear c29
                try clear c29b0
                try clear c29b1
                try clear c30
                try clear c30b0
                try clear c30b1
                try clear c31
                try clear c31b0
                try clear c31b1
                try clear c35
                try clear c35b0
                try clear c35b1
                try clear c36
                try clear c36b0
                try clear c36b1
                try clear c40
                try clear c40b0
                try clear c40b1
                try clear c41
                try clear c41b0
                try clear c41b1
                try clear c42
                try clear c42b0
                try clear c42b1
                try clear c43
                try clear c43b0
                try clear c43b1
                try clear c47
                try clear c47b0
                try clear c47b1
                try clear c48
                try clear c48b0
                try clear c48b1
                try clear c52
                try clear c59
                try clear c59b0
                try clear c59b1
                try clear p2
                try clear p6
                obtain ⟨kq, x94_54, rfl, HA, HJ54, HB⟩ := hcut
                cases kq with
                | zero => exact absurd HA.out (by simp [atticlaw01_WordBack.j1])
                | succ kj54 =>
                  have H := HA.out
                  clear HA
                  simp only [atticlaw01_WordBack.j1] at H
                  by_cases c62 : x94_54 = true
                  · subst c62
                    have H1 : (some false) = some r := by rw [if_pos rfl] at H; exact H
                    clear H
                    have H := H1
                    clear H1
                    obtain rfl := Option.some.inj H
                    go_wp2
                    go_ret
                    exact ⟨by first | rfl | (simp [errW_none, errW_some] <;> rfl) | (simp [*, errW_none, errW_some] <;> rfl), by repeat (first | (with_reducible first | exact HB.out | apply below_alloc | apply pw_below_drewN | apply below_drew1) | exact HB.out)⟩
                  · replace c62 := Bool.eq_false_iff.mpr c62
                    subst c62
                    have H1 : ((word_TakeUvar.f kj54 l2).bind fun bt278 => (if bt278.2.2 = 0 then (if bt278.2.1 ≤ (l2.length : Int) then (if bt278.2.1 ≥ 0 then ((word_Uvar.f kj54 bt278.1).bind fun t281 => (if 0 ≤ bt278.2.1 then ((bytes_Equal.f t281 (l2.take (bt278.2.1 : Int).toNat)).bind fun t285 => (some t285)) else (none))) else (some false)) else (some false)) else (some true))) = some r := by rw [if_neg (show ¬ (false = true) by decide)] at H; exact H
                    clear H
                    have H := H1
                    clear H1
                    replace H := Option.bind_eq_some_iff.mp H
                    obtain ⟨⟨t278, t279, t280⟩, A630, H⟩ := H
                    replace H : (if t280 = 0 then (if t279 ≤ (l2.length : Int) then (if t279 ≥ 0 then ((word_Uvar.f kj54 t278).bind fun t281 => (if 0 ≤ t279 then ((bytes_Equal.f t281 (l2.take (t279 : Int).toNat)).bind fun t285 => (some t285)) else (none))) else (some false)) else (some false)) else (some true)) = some r := H
                    have A63 := Aside0.mk A630
                    clear A630
                    by_cases c64 : t280 = 0
                    · rw [if_pos c64] at H
                      have c64b0 : (t280 == 0) = true := beq_iff_eq.mpr c64
                      have c64b1 : (t280 != 0) = false := bne_eq_false_iff_eq.mpr c64
                      clear c64
                      by_cases c65 : t279 ≤ (l2.length : Int)
                      · rw [if_pos c65] at H
                        have c65b0 : decide (t279 ≤ (l2.length : Int)) = true := decide_eq_true c65
                        clear c65
                        by_cases c66 : t279 ≥ 0
                        · rw [if_pos c66] at H
                          have c66b0 : decide (0 ≤ t279) = true := decide_eq_true c66
                          clear c66
                          replace H := Option.bind_eq_some_iff.mp H
                          obtain ⟨t281, A670, H⟩ := H
                          replace H : (if 0 ≤ t279 then ((bytes_Equal.f t281 (l2.take (t279 : Int).toNat)).bind fun t285 => (some t285)) else (none)) = some r := H
                          have A67 := Aside0.mk A670
                          clear A670
                          by_cases c68 : 0 ≤ t279
                          · rw [if_pos c68] at H
                            have c68b0 := eq_true c68
                            have c68b1 : decide (0 ≤ t279) = true := decide_eq_true c68
                            clear c68
                            have c69b0 := eq_true (of_decide_eq_true (by first | (with_reducible assumption) | assumption) : t279 ≤ (l2.length : Int))
                            replace H := Option.bind_eq_some_iff.mp H
                            obtain ⟨t285, A700, H⟩ := H
                            replace H : (some t285) = some r := H
                            have A70 := Aside0.mk A700
                            clear A700
                            obtain rfl := Option.some.inj H
                            try go_wp2_with (first | ((with_reducible refine gate_callee (f := 19) rfl ?_); refine goesL_ (some 97) rfl rfl Try.func19 (by kernel_rfl) rfl #[.slice A2 l2.length c2] rfl (by (try simp only [List.map_toArray, List.map_cons, List.map_nil]); first | done | rfl | (simp only [List.length_drop, List.length_take]; rfl)) ?_; (with_reducible refine (word_TakeUvar.calls kj54 _ _ l2 t278 t279 t280 _ ?side1 ?side2 A63.out).mono ?_); (case side1 => repeat (first | exact (Kd.C_below HR2.out HB.out) | (with_reducible refine Kd.C_alloc ?_ _) | (with_reducible refine Kd.C_drewN ?_ _) | (with_reducible refine Kd.C_drew ?_))); (case side2 => exact HC2.out); rintro e w71 ⟨rfl, hb⟩; refine ⟨_, rfl, ?_⟩; have n0_ := Aside0.mk (below_step (by repeat (first | (with_reducible first | exact HB.out | apply below_alloc | apply pw_below_drewN | apply below_drew1) | exact HB.out)) hb); clear HB; have HB := n0_; clear n0_; (try clear hb); (try clear hb2); (try clear hk); (try clear hi)))
                            have n0_ := Aside0.mk (below_drew1 HB.out)
                            clear HB
                            have HB := n0_
                            clear n0_
                            obtain ⟨i073, hi073, _, hsz73, _⟩ := info_parts info5
                            obtain ⟨hcut73, hA73, hC73⟩ := print_take_of (P := Try.prog) (Value.int .u8) 0 22 5 .i64 Try.underlying22 hi073 hsz73 A2 c2 l2 t279 (of_decide_eq_true (by first | (with_reducible assumption) | assumption)) (of_decide_eq_true (by first | (with_reducible assumption) | assumption)) HC2.out
                            have HR284 := Aside0.mk (Kd.C_of_reads (h1 := fun _ => rfl) (hA73 _ (Kd.reads_of_C HR2.out)))
                            have HC284 := Aside0.mk hC73
                            clear hA73 hC73 hi073 hsz73
                            have HLN73 := Aside0.mk (show ((l2.take (t279 : Int).toNat).length : Int) = t279 ∧ 0 ≤ t279 from ⟨by rw [List.length_take]; have h_ : (t279 : Int) ≤ (l2.length : Int) := of_decide_eq_true (by first | (with_reducible assumption) | assumption); have h2_ : 0 ≤ (t279 : Int) := (of_decide_eq_true (by first | (with_reducible assumption) | assumption)); omega, (of_decide_eq_true (by first | (with_reducible assumption) | assumption))⟩)
                            refine start_ (n := 21) (S := fun w' => True) (ds := []) #[false, false, false, false, false, false, false, false, false, false, false, false, false, false, false, false, false, false, false, false, false] (by kernel_rfl) rfl rfl trivial (fun hHeld => ?_); refine with_tabW atticlaw01_WordBack.tab12 atticlaw01_WordBack.bits12 (fun HT_ HW_ => ?_)
                            generalize w71.drew = w72 at HB HR284 hHeld ⊢
                            refine pure_ (i := 0) (N := some 101) (v := ?_) (a' := ?_) #[true, false, false, false, false, false, false, false, false, false, false, false, false, false, false, false, false, false, false, false, false] rfl rfl (any_of HT_.out (by kernel_rfl)) (fun _ _ _ h => h) (Or.inl ⟨by rfl, ?_⟩) ?_ ?_
                            rotate_left
                            · intro w'
                              go_simp
                              with_reducible rfl
                            rotate_left
                            · simp only [Act.put, List.setIfInBounds_toArray, List.set_cons_zero, List.set_cons_succ, i64_w, i32_w]
                              rfl
                            refine pure_ (i := 1) (N := some 102) (v := ?_) (a' := ?_) #[true, true, false, false, false, false, false, false, false, false, false, false, false, false, false, false, false, false, false, false, false] rfl rfl (any_of HT_.out (by kernel_rfl)) (fun _ _ _ h => h) (Or.inl ⟨by rfl, ?_⟩) ?_ ?_
                            rotate_left
                            · intro w'
                              go_simp
                              with_reducible rfl
                            rotate_left
                            · simp only [Act.put, List.setIfInBounds_toArray, List.set_cons_zero, List.set_cons_succ, i64_w, i32_w]
                              rfl
                            refine pure_ (i := 2) (N := some 103) (v := ?_) (a' := ?_) #[true, true, true, false, false, false, false, false, false, false, false, false, false, false, false, false, false, false, false, false, false] rfl rfl (any_of HT_.out (by kernel_rfl)) (fun _ _ _ h => h) (Or.inl ⟨by rfl, ?_⟩) ?_ ?_
                            rotate_left
                            · intro w'
                              go_simp
                              with_reducible rfl
                            rotate_left
                            · simp only [Act.put, List.setIfInBounds_toArray, List.set_cons_zero, List.set_cons_succ, i64_w, i32_w]
                              rfl
                            refine pure_ (i := 3) (N := some 104) (v := ?_) (a' := ?_) #[true, true, true, true, false, false, false, false, false, false, false, false, false, false, false, false, false, false, false, false, false] rfl rfl (any_of HT_.out (by kernel_rfl)) (fun _ _ _ h => h) (Or.inl ⟨by rfl, ?_⟩) ?_ ?_
                            rotate_left
                            · intro w'
                              go_simp
                              with_reducible rfl
                            rotate_left
                            · simp only [Act.put, List.setIfInBounds_toArray, List.set_cons_zero, List.set_cons_succ, i64_w, i32_w]
                              rfl
                            refine pure_ (i := 4) (N := some 105) (v := ?_) (a' := ?_) #[true, true, true, true, true, false, false, false, false, false, false, false, false, false, false, false, false, false, false, false, false] rfl rfl (any_of HT_.out (by kernel_rfl)) (fun _ _ _ h => h) (Or.inl ⟨by rfl, ?_⟩) ?_ ?_
                            rotate_left
                            · intro w'
                              go_simp
                              with_reducible rfl
                            rotate_left
                            · simp only [Act.put, List.setIfInBounds_toArray, List.set_cons_zero, List.set_cons_succ, i64_w, i32_w]
                              rfl
                            refine pure_ (i := 5) (N := some 106) (v := ?_) (a' := ?_) #[true, true, true, true, true, true, false, false, false, false, false, false, false, false, false, false, false, false, false, false, false] rfl rfl (any_of HT_.out (by kernel_rfl)) (fun _ _ _ h => h) (Or.inl ⟨by rfl, ?_⟩) ?_ ?_
                            rotate_left
                            · intro w'
                              go_simp
                              with_reducible rfl
                            rotate_left
                            · simp only [Act.put, List.setIfInBounds_toArray, List.set_cons_zero, List.set_cons_succ, i64_w, i32_w]
                              rfl
                            refine pure_ (i := 6) (N := some 107) (v := ?_) (a' := ?_) #[true, true, true, true, true, true, true, false, false, false, false, false, false, false, false, false, false, false, false, false, false] rfl rfl (any_of HT_.out (by kernel_rfl)) (fun _ _ _ h => h) (Or.inl ⟨by rfl, ?_⟩) ?_ ?_
                            rotate_left
                            · intro w'
                              go_simp
                              with_reducible rfl
                            rotate_left
                            · simp only [Act.put, List.setIfInBounds_toArray, List.set_cons_zero, List.set_cons_succ, i64_w, i32_w]
                              rfl
                            refine pure_ (i := 7) (N := some 108) (v := ?_) (a' := ?_) #[true, true, true, true, true, true, true, true, false, false, false, false, false, false, false, false, false, false, false, false, false] rfl rfl (any_of HT_.out (by kernel_rfl)) (fun _ _ _ h => h) (Or.inl ⟨by rfl, ?_⟩) ?_ ?_
                            rotate_left
                            · intro w'
                              go_simp
                              with_reducible rfl
                            rotate_left
                            · simp only [Act.put, List.setIfInBounds_toArray, List.set_cons_zero, List.set_cons_succ, i64_w, i32_w]
                              rfl
                            refine pure_ (i := 8) (N := some 109) (v := ?_) (a' := ?_) #[true, true, true, true, true, true, true, true, true, false, false, false, false, false, false, false, false, false, false, false, false] rfl rfl (any_of HT_.out (by kernel_rfl)) (fun _ _ _ h => h) (Or.inl ⟨by rfl, ?_⟩) ?_ ?_
                            rotate_left
                            · intro w'
                              go_simp
                              with_reducible rfl
                            rotate_left
                            · simp only [Act.put, List.setIfInBounds_toArray, List.set_cons_zero, List.set_cons_succ, i64_w, i32_w]
                              rfl
                            refine pure_ (i := 9) (N := some 110) (v := ?_) (a' := ?_) #[true, true, true, true, true, true, true, true, true, true, false, false, false, false, false, false, false, false, false, false, false] rfl rfl (any_of HT_.out (by kernel_rfl)) (fun _ _ _ h => h) (Or.inl ⟨by rfl, ?_⟩) ?_ ?_
                            rotate_left
                            · intro w'
                              go_simp
                              with_reducible rfl
                            rotate_left
                            · simp only [Act.put, List.setIfInBounds_toArray, List.set_cons_zero, List.set_cons_succ, i64_w, i32_w]
                              rfl
                            refine pure_ (i := 10) (N := some 111) (v := ?_) (a' := ?_) #[true, true, true, true, true, true, true, true, true, true, true, false, false, false, false, false, false, false, false, false, false] rfl rfl (any_of HT_.out (by kernel_rfl)) (fun _ _ _ h => h) (Or.inl ⟨by rfl, ?_⟩) ?_ ?_
                            rotate_left
                            · intro w'
                              go_simp
                              with_reducible rfl
                            rotate_left
                            · simp only [Act.put, List.setIfInBounds_toArray, List.set_cons_zero, List.set_cons_succ, i64_w, i32_w]
                              rfl
                            refine pure_ (i := 11) (N := some 112) (v := ?_) (a' := ?_) #[true, true, true, true, true, true, true, true, true, true, true, true, false, false, false, false, false, false, false, false, false] rfl rfl (any_of HT_.out (by kernel_rfl)) (fun _ _ _ h => h) (Or.inl ⟨by rfl, ?_⟩) ?_ ?_
                            rotate_left
                            · intro w'
                              go_simp
                              with_reducible rfl
                            rotate_left
                            · simp only [Act.put, List.setIfInBounds_toArray, List.set_cons_zero, List.set_cons_succ, i64_w, i32_w]
                              rfl
                            refine pure_ (i := 12) (N := some 113) (v := ?_) (a' := ?_) #[true, true, true, true, true, true, true, true, true, true, true, true, true, false, false, false, false, false, false, false, false] rfl rfl (any_of HT_.out (by kernel_rfl)) (fun _ _ _ h => h) (Or.inl ⟨by rfl, ?_⟩) ?_ ?_
                            rotate_left
                            · intro w'
                              go_simp
                              with_reducible rfl
                            rotate_left
                            · simp only [Act.put, List.setIfInBounds_toArray, List.set_cons_zero, List.set_cons_succ, i64_w, i32_w]
                              rfl
                            refine pure_ (i := 14) (N := some 115) (v := ?_) (a' := ?_) #[true, true, true, true, true, true, true, true, true, true, true, true, true, false, true, false, false, false, false, false, false] rfl rfl (any_of HT_.out (by kernel_rfl)) (fun _ _ _ h => h) (Or.inl ⟨by rfl, ?_⟩) ?_ ?_
                            rotate_left
                            · intro w'
                              go_simp
                              with_reducible rfl
                            rotate_left
                            · simp only [Act.put, List.setIfInBounds_toArray, List.set_cons_zero, List.set_cons_succ, i64_w, i32_w]
                              rfl
                            refine pure_ (i := 15) (N := some 116) (v := ?_) (a' := ?_) #[true, true, true, true, true, true, true, true, true, true, true, true, true, false, true, true, false, false, false, false, false] rfl rfl (any_of HT_.out (by kernel_rfl)) (fun _ _ _ h => h) (Or.inl ⟨by rfl, ?_⟩) ?_ ?_
                            rotate_left
                            · intro w'
                              go_simp
                              with_reducible rfl
                            rotate_left
                            · simp only [Act.put, List.setIfInBounds_toArray, List.set_cons_zero, List.set_cons_succ, i64_w, i32_w]
                              rfl
                            refine pure_ (i := 16) (N := some 117) (v := ?_) (a' := ?_) #[true, true, true, true, true, true, true, true, true, true, true, true, true, false, true, true, true, false, false, false, false] rfl rfl (any_of HT_.out (by kernel_rfl)) (fun _ _ _ h => h) (Or.inl ⟨by rfl, ?_⟩) ?_ ?_
                            rotate_left
                            · intro w'
                              go_simp
                              with_reducible rfl
                            rotate_left
                            · simp only [Act.put, List.setIfInBounds_toArray, List.set_cons_zero, List.set_cons_succ, i64_w, i32_w]
                              rfl
                            refine one_ (i := 13) (N := some 114) #[true, true, true, true, true, true, true, true, true, true, true, true, true, true, true, true, true, false, false, false, false] rfl rfl (one_of HT_.out (by kernel_rfl)) (by decide) (fun K hK => ?_)
                            refine goes_ Try.func21 (by kernel_rfl) rfl #[.int .u64 t278] (by rfl) rfl rfl (by (try simp only [List.map_toArray, List.map_cons, List.map_nil]); first | done | rfl | (simp only [List.length_drop, List.length_take]; rfl)) ?_
                            with_reducible refine (word_Uvar.calls kj54 t278 t281 _ A67.out).mono ?_
                            rintro e w74 ⟨v282, rfl, ho0, hb⟩
                            refine ⟨_, rfl, ?_⟩
                            have n0_ := Aside0.mk (Kd.R_lower ho0 (below_size (by repeat (first | (with_reducible first | exact HB.out | apply below_alloc | apply pw_below_drewN | apply below_drew1) | exact HB.out))))
                            have n1_ := Aside0.mk (below_step (by repeat (first | (with_reducible first | exact HB.out | apply below_alloc | apply pw_below_drewN | apply below_drew1) | exact HB.out)) hb)
                            clear HB
                            have HO283 := n0_
                            have HB := n1_
                            clear n0_ n1_
                            (try clear hb)
                            (try clear hb2)
                            (try clear hk)
                            (try clear hi)
                            (try clear ho0)
                            obtain ⟨Ao75, co75, eo75⟩ := Kd.R_slice HO283.out
                            (first | subst eo75 | (injection eo75 with f1_ f2_ f3_; have f4_ := f1_.symm; have f5_ := f3_.symm; clear f1_ f2_ f3_; subst f4_; subst f5_))
                            refine hK.out _ _ trivial (fun hHeld => ?_)
                            clear hK K
                            refine norm_ (a' := ?_) ?_ ?_
                            rotate_left
                            · show Act.put _ (some 114) _ = _
                              simp only [Act.put, List.setIfInBounds_toArray, List.set_cons_zero, List.set_cons_succ, i64_w, i32_w]
                              rfl
                            refine one_ (i := 17) (N := some 118) #[true, true, true, true, true, true, true, true, true, true, true, true, true, true, true, true, true, true, false, false, false] rfl rfl (one_of HT_.out (by kernel_rfl)) (by decide) (fun K hK => ?_)
                            refine goes_ Try.func16 (by kernel_rfl) rfl #[.slice Ao75 t281.length co75, .slice A2 (l2.take (t279 : Int).toNat).length c2] (by rfl) rfl rfl (by (try simp only [List.map_toArray, List.map_cons, List.map_nil]); first | done | (rw [show (l2.take (t279 : Int).toNat).length = t279.toNat from (by rw [List.length_take]; have h_ : (t279 : Int) ≤ (l2.length : Int) := of_decide_eq_true (by first | (with_reducible assumption) | assumption); omega)] <;> rfl) | rfl | (simp only [List.length_drop, List.length_take]; rfl)) ?_
                            with_reducible refine (bytes_Equal.calls _ _ t281 _ _ (l2.take (t279 : Int).toNat) t285 _ ?side1 ?side2 ?side3 ?side4 A70.out).mono ?_
                            (case side1 => repeat (first | exact (Kd.R_reads' HO283.out).2.2 | (with_reducible refine Kd.C_alloc ?_ _) | (with_reducible refine Kd.C_drewN ?_ _) | (with_reducible refine Kd.C_drew ?_)))
                            (case side2 => exact (Kd.R_reads' HO283.out).2.1)
                            (case side3 => repeat (first | exact (Kd.C_below HR284.out HB.out) | (with_reducible refine Kd.C_alloc ?_ _) | (with_reducible refine Kd.C_drewN ?_ _) | (with_reducible refine Kd.C_drew ?_)))
                            (case side4 => exact HC284.out)
                            rintro e w' ⟨rfl, ⟨nd, rfl⟩⟩
                            refine ⟨_, rfl, ?_⟩
                            refine hK.out _ _ trivial (fun hHeld => ?_)
                            clear hK K
                            refine norm_ (a' := ?_) ?_ ?_
                            rotate_left
                            · show Act.put _ (some 118) _ = _
                              simp only [Act.put, List.setIfInBounds_toArray, List.set_cons_zero, List.set_cons_succ, i64_w, i32_w]
                              rfl
                            refine pure_ (i := 18) (N := some 119) (v := ?_) (a' := ?_) #[true, true, true, true, true, true, true, true, true, true, true, true, true, true, true, true, true, true, true, false, false] rfl rfl (any_of HT_.out (by kernel_rfl)) (fun _ _ _ h => h) (Or.inl ⟨by rfl, ?_⟩) ?_ ?_
                            rotate_left
                            · intro w'
                              go_simp
                              with_reducible rfl
                            rotate_left
                            · simp only [Act.put, List.setIfInBounds_toArray, List.set_cons_zero, List.set_cons_succ, i64_w, i32_w]
                              rfl
                            refine pure_ (i := 19) (N := some 120) (v := ?_) (a' := ?_) #[true, true, true, true, true, true, true, true, true, true, true, true, true, true, true, true, true, true, true, true, false] rfl rfl (any_of HT_.out (by kernel_rfl)) (fun _ _ _ h => h) (Or.inl ⟨by rfl, ?_⟩) ?_ ?_
                            rotate_left
                            · intro w'
                              go_simp
                              with_reducible rfl
                            rotate_left
                            · simp only [Act.put, List.setIfInBounds_toArray, List.set_cons_zero, List.set_cons_succ, i64_w, i32_w]
                              rfl
                            refine pure_ (i := 20) (N := some 6) (v := ?_) (a' := ?_) #[true, true, true, true, true, true, true, true, true, true, true, true, true, true, true, true, true, true, true, true, true] rfl rfl (any_of HT_.out (by kernel_rfl)) (fun _ _ _ h => h) (Or.inl ⟨by rfl, ?_⟩) ?_ ?_
                            rotate_left
                            · intro w'
                              go_simp
                              with_reducible rfl
                            rotate_left
                            · simp only [Act.put, List.setIfInBounds_toArray, List.set_cons_zero, List.set_cons_succ, i64_w, i32_w]
                              rfl
                            refine done_ (done_of HT_.out (by kernel_rfl)) ?_
                            try go_wp2
                            go_ret
                            exact ⟨by first | rfl | (simp [errW_none, errW_some] <;> rfl) | (simp [*, errW_none, errW_some] <;> rfl), by repeat (first | (with_reducible first | exact HB.out | apply below_alloc | apply pw_below_drewN | apply below_drew1) | exact HB.out)⟩
                          · rw [if_neg c68] at H
                            exact absurd H (by simp)
                        · rw [if_neg c66] at H
                          have c66b0 : decide (0 ≤ t279) = false := decide_eq_false c66
                          clear c66
                          obtain rfl := Option.some.inj H
                          try go_wp2_with (first | ((with_reducible refine gate_callee (f := 19) rfl ?_); refine goesL_ (some 97) rfl rfl Try.func19 (by kernel_rfl) rfl #[.slice A2 l2.length c2] rfl (by (try simp only [List.map_toArray, List.map_cons, List.map_nil]); first | done | rfl | (simp only [List.length_drop, List.length_take]; rfl)) ?_; (with_reducible refine (word_TakeUvar.calls kj54 _ _ l2 t278 t279 t280 _ ?side1 ?side2 A63.out).mono ?_); (case side1 => repeat (first | exact (Kd.C_below HR2.out HB.out) | (with_reducible refine Kd.C_alloc ?_ _) | (with_reducible refine Kd.C_drewN ?_ _) | (with_reducible refine Kd.C_drew ?_))); (case side2 => exact HC2.out); rintro e w76 ⟨rfl, hb⟩; refine ⟨_, rfl, ?_⟩; have n0_ := Aside0.mk (below_step (by repeat (first | (with_reducible first | exact HB.out | apply below_alloc | apply pw_below_drewN | apply below_drew1) | exact HB.out)) hb); clear HB; have HB := n0_; clear n0_; (try clear hb); (try clear hb2); (try clear hk); (try clear hi)))
                          have n0_ := Aside0.mk (below_drew1 HB.out)
                          clear HB
                          have HB := n0_
                          clear n0_
                          refine start_ (n := 21) (S := fun w' => True) (ds := []) #[false, false, false, false, false, false, false, false, false, false, false, false, false, false, false, false, false, false, false, false, false] (by kernel_rfl) rfl rfl trivial (fun hHeld => ?_); refine with_tabW atticlaw01_WordBack.tab12 atticlaw01_WordBack.bits12 (fun HT_ HW_ => ?_)
                          generalize w76.drew = w77 at HB hHeld ⊢
                          refine pure_ (i := 0) (N := some 101) (v := ?_) (a' := ?_) #[true, false, false, false, false, false, false, false, false, false, false, false, false, false, false, false, false, false, false, false, false] rfl rfl (any_of HT_.out (by kernel_rfl)) (fun _ _ _ h => h) (Or.inl ⟨by rfl, ?_⟩) ?_ ?_
                          rotate_left
                          · intro w'
                            go_simp
                            with_reducible rfl
                          rotate_left
                          · simp only [Act.put, List.setIfInBounds_toArray, List.set_cons_zero, List.set_cons_succ, i64_w, i32_w]
                            rfl
                          refine pure_ (i := 1) (N := some 102) (v := ?_) (a' := ?_) #[true, true, false, false, false, false, false, false, false, false, false, false, false, false, false, false, false, false, false, false, false] rfl rfl (any_of HT_.out (by kernel_rfl)) (fun _ _ _ h => h) (Or.inl ⟨by rfl, ?_⟩) ?_ ?_
                          rotate_left
                          · intro w'
                            go_simp
                            with_reducible rfl
                          rotate_left
                          · simp only [Act.put, List.setIfInBounds_toArray, List.set_cons_zero, List.set_cons_succ, i64_w, i32_w]
                            rfl
                          refine pure_ (i := 2) (N := some 103) (v := ?_) (a' := ?_) #[true, true, true, false, false, false, false, false, false, false, false, false, false, false, false, false, false, false, false, false, false] rfl rfl (any_of HT_.out (by kernel_rfl)) (fun _ _ _ h => h) (Or.inl ⟨by rfl, ?_⟩) ?_ ?_
                          rotate_left
                          · intro w'
                            go_simp
                            with_reducible rfl
                          rotate_left
                          · simp only [Act.put, List.setIfInBounds_toArray, List.set_cons_zero, List.set_cons_succ, i64_w, i32_w]
                            rfl
                          refine pure_ (i := 3) (N := some 104) (v := ?_) (a' := ?_) #[true, true, true, true, false, false, false, false, false, false, false, false, false, false, false, false, false, false, false, false, false] rfl rfl (any_of HT_.out (by kernel_rfl)) (fun _ _ _ h => h) (Or.inl ⟨by rfl, ?_⟩) ?_ ?_
                          rotate_left
                          · intro w'
                            go_simp
                            with_reducible rfl
                          rotate_left
                          · simp only [Act.put, List.setIfInBounds_toArray, List.set_cons_zero, List.set_cons_succ, i64_w, i32_w]
                            rfl
                          refine pure_ (i := 4) (N := some 105) (v := ?_) (a' := ?_) #[true, true, true, true, true, false, false, false, false, false, false, false, false, false, false, false, false, false, false, false, false] rfl rfl (any_of HT_.out (by kernel_rfl)) (fun _ _ _ h => h) (Or.inl ⟨by rfl, ?_⟩) ?_ ?_
                          rotate_left
                          · intro w'
                            go_simp
                            with_reducible rfl
                          rotate_left
                          · simp only [Act.put, List.setIfInBounds_toArray, List.set_cons_zero, List.set_cons_succ, i64_w, i32_w]
                            rfl
                          refine pure_ (i := 5) (N := some 106) (v := ?_) (a' := ?_) #[true, true, true, true, true, true, false, false, false, false, false, false, false, false, false, false, false, false, false, false, false] rfl rfl (any_of HT_.out (by kernel_rfl)) (fun _ _ _ h => h) (Or.inl ⟨by rfl, ?_⟩) ?_ ?_
                          rotate_left
                          · intro w'
                            go_simp
                            with_reducible rfl
                          rotate_left
                          · simp only [Act.put, List.setIfInBounds_toArray, List.set_cons_zero, List.set_cons_succ, i64_w, i32_w]
                            rfl
                          refine pure_ (i := 6) (N := some 107) (v := ?_) (a' := ?_) #[true, true, true, true, true, true, true, false, false, false, false, false, false, false, false, false, false, false, false, false, false] rfl rfl (any_of HT_.out (by kernel_rfl)) (fun _ _ _ h => h) (Or.inl ⟨by rfl, ?_⟩) ?_ ?_
                          rotate_left
                          · intro w'
                            go_simp
                            with_reducible rfl
                          rotate_left
                          · simp only [Act.put, List.setIfInBounds_toArray, List.set_cons_zero, List.set_cons_succ, i64_w, i32_w]
                            rfl
                          refine pure_ (i := 7) (N := some 108) (v := ?_) (a' := ?_) #[true, true, true, true, true, true, true, true, false, false, false, false, false, false, false, false, false, false, false, false, false] rfl rfl (any_of HT_.out (by kernel_rfl)) (fun _ _ _ h => h) (Or.inl ⟨by rfl, ?_⟩) ?_ ?_
                          rotate_left
                          · intro w'
                            go_simp
                            with_reducible rfl
                          rotate_left
                          · simp only [Act.put, List.setIfInBounds_toArray, List.set_cons_zero, List.set_cons_succ, i64_w, i32_w]
                            rfl
                          refine pure_ (i := 8) (N := some 109) (v := ?_) (a' := ?_) #[true, true, true, true, true, true, true, true, true, false, false, false, false, false, false, false, false, false, false, false, false] rfl rfl (any_of HT_.out (by kernel_rfl)) (fun _ _ _ h => h) (Or.inl ⟨by rfl, ?_⟩) ?_ ?_
                          rotate_left
                          · intro w'
                            go_simp
                            with_reducible rfl
                          rotate_left
                          · simp only [Act.put, List.setIfInBounds_toArray, List.set_cons_zero, List.set_cons_succ, i64_w, i32_w]
                            rfl
                          refine pure_ (i := 9) (N := some 110) (v := ?_) (a' := ?_) #[true, true, true, true, true, true, true, true, true, true, false, false, false, false, false, false, false, false, false, false, false] rfl rfl (any_of HT_.out (by kernel_rfl)) (fun _ _ _ h => h) (Or.inl ⟨by rfl, ?_⟩) ?_ ?_
                          rotate_left
                          · intro w'
                            go_simp
                            with_reducible rfl
                          rotate_left
                          · simp only [Act.put, List.setIfInBounds_toArray, List.set_cons_zero, List.set_cons_succ, i64_w, i32_w]
                            rfl
                          refine pure_ (i := 10) (N := some 111) (v := ?_) (a' := ?_) #[true, true, true, true, true, true, true, true, true, true, true, false, false, false, false, false, false, false, false, false, false] rfl rfl (any_of HT_.out (by kernel_rfl)) (fun _ _ _ h => h) (Or.inl ⟨by rfl, ?_⟩) ?_ ?_
                          rotate_left
                          · intro w'
                            go_simp
                            with_reducible rfl
                          rotate_left
                          · simp only [Act.put, List.setIfInBounds_toArray, List.set_cons_zero, List.set_cons_succ, i64_w, i32_w]
                            rfl
                          refine pure_ (i := 11) (N := some 112) (v := ?_) (a' := ?_) #[true, true, true, true, true, true, true, true, true, true, true, true, false, false, false, false, false, false, false, false, false] rfl rfl (any_of HT_.out (by kernel_rfl)) (fun _ _ _ h => h) (Or.inl ⟨by rfl, ?_⟩) ?_ ?_
                          rotate_left
                          · intro w'
                            go_simp
                            with_reducible rfl
                          rotate_left
                          · simp only [Act.put, List.setIfInBounds_toArray, List.set_cons_zero, List.set_cons_succ, i64_w, i32_w]
                            rfl
                          refine pure_ (i := 12) (N := some 113) (v := undef) (a' := ?_) #[true, true, true, true, true, true, true, true, true, true, true, true, true, false, false, false, false, false, false, false, false] rfl rfl (any_of HT_.out (by kernel_rfl)) (fun _ _ _ h => h) (Or.inr ⟨by rfl, rfl⟩) ?_ ?_
                          rotate_left
                          · simp only [Act.put, List.setIfInBounds_toArray, List.set_cons_zero, List.set_cons_succ, i64_w, i32_w]
                            rfl
                          refine pure_ (i := 13) (N := some 114) (v := undef) (a' := ?_) #[true, true, true, true, true, true, true, true, true, true, true, true, true, true, false, false, false, false, false, false, false] rfl rfl (any_of HT_.out (by kernel_rfl)) (fun _ _ _ h => h) (Or.inr ⟨by rfl, rfl⟩) ?_ ?_
                          rotate_left
                          · simp only [Act.put, List.setIfInBounds_toArray, List.set_cons_zero, List.set_cons_succ, i64_w, i32_w]
                            rfl
                          refine pure_ (i := 14) (N := some 115) (v := undef) (a' := ?_) #[true, true, true, true, true, true, true, true, true, true, true, true, true, true, true, false, false, false, false, false, false] rfl rfl (any_of HT_.out (by kernel_rfl)) (fun _ _ _ h => h) (Or.inr ⟨by rfl, rfl⟩) ?_ ?_
                          rotate_left
                          · simp only [Act.put, List.setIfInBounds_toArray, List.set_cons_zero, List.set_cons_succ, i64_w, i32_w]
                            rfl
                          refine pure_ (i := 15) (N := some 116) (v := undef) (a' := ?_) #[true, true, true, true, true, true, true, true, true, true, true, true, true, true, true, true, false, false, false, false, false] rfl rfl (any_of HT_.out (by kernel_rfl)) (fun _ _ _ h => h) (Or.inr ⟨by rfl, rfl⟩) ?_ ?_
                          rotate_left
                          · simp only [Act.put, List.setIfInBounds_toArray, List.set_cons_zero, List.set_cons_succ, i64_w, i32_w]
                            rfl
                          refine pure_ (i := 16) (N := some 117) (v := undef) (a' := ?_) #[true, true, true, true, true, true, true, true, true, true, true, true, true, true, true, true, true, false, false, false, false] rfl rfl (any_of HT_.out (by kernel_rfl)) (fun _ _ _ h => h) (Or.inr ⟨by rfl, rfl⟩) ?_ ?_
                          rotate_left
                          · simp only [Act.put, List.setIfInBounds_toArray, List.set_cons_zero, List.set_cons_succ, i64_w, i32_w]
                            rfl
                          refine pure_ (i := 17) (N := some 118) (v := undef) (a' := ?_) #[true, true, true, true, true, true, true, true, true, true, true, true, true, true, true, true, true, true, false, false, false] rfl rfl (any_of HT_.out (by kernel_rfl)) (fun _ _ _ h => h) (Or.inr ⟨by rfl, rfl⟩) ?_ ?_
                          rotate_left
                          · simp only [Act.put, List.setIfInBounds_toArray, List.set_cons_zero, List.set_cons_succ, i64_w, i32_w]
                            rfl
                          refine pure_ (i := 18) (N := some 119) (v := ?_) (a' := ?_) #[true, true, true, true, true, true, true, true, true, true, true, true, true, true, true, true, true, true, true, false, false] rfl rfl (any_of HT_.out (by kernel_rfl)) (fun _ _ _ h => h) (Or.inl ⟨by rfl, ?_⟩) ?_ ?_
                          rotate_left
                          · intro w'
                            go_simp
                            with_reducible rfl
                          rotate_left
                          · simp only [Act.put, List.setIfInBounds_toArray, List.set_cons_zero, List.set_cons_succ, i64_w, i32_w]
                            rfl
                          refine pure_ (i := 19) (N := some 120) (v := ?_) (a' := ?_) #[true, true, true, true, true, true, true, true, true, true, true, true, true, true, true, true, true, true, true, true, false] rfl rfl (any_of HT_.out (by kernel_rfl)) (fun _ _ _ h => h) (Or.inl ⟨by rfl, ?_⟩) ?_ ?_
                          rotate_left
                          · intro w'
                            go_simp
                            with_reducible rfl
                          rotate_left
                          · simp only [Act.put, List.setIfInBounds_toArray, List.set_cons_zero, List.set_cons_succ, i64_w, i32_w]
                            rfl
                          refine pure_ (i := 20) (N := some 6) (v := ?_) (a' := ?_) #[true, true, true, true, true, true, true, true, true, true, true, true, true, true, true, true, true, true, true, true, true] rfl rfl (any_of HT_.out (by kernel_rfl)) (fun _ _ _ h => h) (Or.inl ⟨by rfl, ?_⟩) ?_ ?_
                          rotate_left
                          · intro w'
                            go_simp
                            with_reducible rfl
                          rotate_left
                          · simp only [Act.put, List.setIfInBounds_toArray, List.set_cons_zero, List.set_cons_succ, i64_w, i32_w]
                            rfl
                          refine done_ (done_of HT_.out (by kernel_rfl)) ?_
                          try go_wp2
                          go_ret
                          exact ⟨by first | rfl | (simp [errW_none, errW_some] <;> rfl) | (simp [*, errW_none, errW_some] <;> rfl), by repeat (first | (with_reducible first | exact HB.out | apply below_alloc | apply pw_below_drewN | apply below_drew1) | exact HB.out)⟩
                      · rw [if_neg c65] at H
                        have c65b0 : decide (t279 ≤ (l2.length : Int)) = false := decide_eq_false c65
                        clear c65
                        obtain rfl := Option.some.inj H
                        try go_wp2_with (first | ((with_reducible refine gate_callee (f := 19) rfl ?_); refine goesL_ (some 97) rfl rfl Try.func19 (by kernel_rfl) rfl #[.slice A2 l2.length c2] rfl (by (try simp only [List.map_toArray, List.map_cons, List.map_nil]); first | done | rfl | (simp only [List.length_drop, List.length_take]; rfl)) ?_; (with_reducible refine (word_TakeUvar.calls kj54 _ _ l2 t278 t279 t280 _ ?side1 ?side2 A63.out).mono ?_); (case side1 => repeat (first | exact (Kd.C_below HR2.out HB.out) | (with_reducible refine Kd.C_alloc ?_ _) | (with_reducible refine Kd.C_drewN ?_ _) | (with_reducible refine Kd.C_drew ?_))); (case side2 => exact HC2.out); rintro e w78 ⟨rfl, hb⟩; refine ⟨_, rfl, ?_⟩; have n0_ := Aside0.mk (below_step (by repeat (first | (with_reducible first | exact HB.out | apply below_alloc | apply pw_below_drewN | apply below_drew1) | exact HB.out)) hb); clear HB; have HB := n0_; clear n0_; (try clear hb); (try clear hb2); (try clear hk); (try clear hi)))
                        have n0_ := Aside0.mk (below_drew1 HB.out)
                        clear HB
                        have HB := n0_
                        clear n0_
                        refine start_ (n := 21) (S := fun w' => True) (ds := []) #[false, false, false, false, false, false, false, false, false, false, false, false, false, false, false, false, false, false, false, false, false] (by kernel_rfl) rfl rfl trivial (fun hHeld => ?_); refine with_tabW atticlaw01_WordBack.tab12 atticlaw01_WordBack.bits12 (fun HT_ HW_ => ?_)
                        generalize w78.drew = w79 at HB hHeld ⊢
                        refine pure_ (i := 0) (N := some 101) (v := ?_) (a' := ?_) #[true, false, false, false, false, false, false, false, false, false, false, false, false, false, false, false, false, false, false, false, false] rfl rfl (any_of HT_.out (by kernel_rfl)) (fun _ _ _ h => h) (Or.inl ⟨by rfl, ?_⟩) ?_ ?_
                        rotate_left
                        · intro w'
                          go_simp
                          with_reducible rfl
                        rotate_left
                        · simp only [Act.put, List.setIfInBounds_toArray, List.set_cons_zero, List.set_cons_succ, i64_w, i32_w]
                          rfl
                        refine pure_ (i := 1) (N := some 102) (v := ?_) (a' := ?_) #[true, true, false, false, false, false, false, false, false, false, false, false, false, false, false, false, false, false, false, false, false] rfl rfl (any_of HT_.out (by kernel_rfl)) (fun _ _ _ h => h) (Or.inl ⟨by rfl, ?_⟩) ?_ ?_
                        rotate_left
                        · intro w'
                          go_simp
                          with_reducible rfl
                        rotate_left
                        · simp only [Act.put, List.setIfInBounds_toArray, List.set_cons_zero, List.set_cons_succ, i64_w, i32_w]
                          rfl
                        refine pure_ (i := 2) (N := some 103) (v := ?_) (a' := ?_) #[true, true, true, false, false, false, false, false, false, false, false, false, false, false, false, false, false, false, false, false, false] rfl rfl (any_of HT_.out (by kernel_rfl)) (fun _ _ _ h => h) (Or.inl ⟨by rfl, ?_⟩) ?_ ?_
                        rotate_left
                        · intro w'
                          go_simp
                          with_reducible rfl
                        rotate_left
                        · simp only [Act.put, List.setIfInBounds_toArray, List.set_cons_zero, List.set_cons_succ, i64_w, i32_w]
                          rfl
                        refine pure_ (i := 3) (N := some 104) (v := ?_) (a' := ?_) #[true, true, true, true, false, false, false, false, false, false, false, false, false, false, false, false, false, false, false, false, false] rfl rfl (any_of HT_.out (by kernel_rfl)) (fun _ _ _ h => h) (Or.inl ⟨by rfl, ?_⟩) ?_ ?_
                        rotate_left
                        · intro w'
                          go_simp
                          with_reducible rfl
                        rotate_left
                        · simp only [Act.put, List.setIfInBounds_toArray, List.set_cons_zero, List.set_cons_succ, i64_w, i32_w]
                          rfl
                        refine pure_ (i := 4) (N := some 105) (v := ?_) (a' := ?_) #[true, true, true, true, true, false, false, false, false, false, false, false, false, false, false, false, false, false, false, false, false] rfl rfl (any_of HT_.out (by kernel_rfl)) (fun _ _ _ h => h) (Or.inl ⟨by rfl, ?_⟩) ?_ ?_
                        rotate_left
                        · intro w'
                          go_simp
                          with_reducible rfl
                        rotate_left
                        · simp only [Act.put, List.setIfInBounds_toArray, List.set_cons_zero, List.set_cons_succ, i64_w, i32_w]
                          rfl
                        refine pure_ (i := 5) (N := some 106) (v := ?_) (a' := ?_) #[true, true, true, true, true, true, false, false, false, false, false, false, false, false, false, false, false, false, false, false, false] rfl rfl (any_of HT_.out (by kernel_rfl)) (fun _ _ _ h => h) (Or.inl ⟨by rfl, ?_⟩) ?_ ?_
                        rotate_left
                        · intro w'
                          go_simp
                          with_reducible rfl
                        rotate_left
                        · simp only [Act.put, List.setIfInBounds_toArray, List.set_cons_zero, List.set_cons_succ, i64_w, i32_w]
                          rfl
                        refine pure_ (i := 6) (N := some 107) (v := ?_) (a' := ?_) #[true, true, true, true, true, true, true, false, false, false, false, false, false, false, false, false, false, false, false, false, false] rfl rfl (any_of HT_.out (by kernel_rfl)) (fun _ _ _ h => h) (Or.inl ⟨by rfl, ?_⟩) ?_ ?_
                        rotate_left
                        · intro w'
                          go_simp
                          with_reducible rfl
                        rotate_left
                        · simp only [Act.put, List.setIfInBounds_toArray, List.set_cons_zero, List.set_cons_succ, i64_w, i32_w]
                          rfl
                        refine pure_ (i := 7) (N := some 108) (v := ?_) (a' := ?_) #[true, true, true, true, true, true, true, true, false, false, false, false, false, false, false, false, false, false, false, false, false] rfl rfl (any_of HT_.out (by kernel_rfl)) (fun _ _ _ h => h) (Or.inl ⟨by rfl, ?_⟩) ?_ ?_
                        rotate_left
                        · intro w'
                          go_simp
                          with_reducible rfl
                        rotate_left
                        · simp only [Act.put, List.setIfInBounds_toArray, List.set_cons_zero, List.set_cons_succ, i64_w, i32_w]
                          rfl
                        refine pure_ (i := 8) (N := some 109) (v := undef) (a' := ?_) #[true, true, true, true, true, true, true, true, true, false, false, false, false, false, false, false, false, false, false, false, false] rfl rfl (any_of HT_.out (by kernel_rfl)) (fun _ _ _ h => h) (Or.inr ⟨by rfl, rfl⟩) ?_ ?_
                        rotate_left
                        · simp only [Act.put, List.setIfInBounds_toArray, List.set_cons_zero, List.set_cons_succ, i64_w, i32_w]
                          rfl
                        refine pure_ (i := 9) (N := some 110) (v := undef) (a' := ?_) #[true, true, true, true, true, true, true, true, true, true, false, false, false, false, false, false, false, false, false, false, false] rfl rfl (any_of HT_.out (by kernel_rfl)) (fun _ _ _ h => h) (Or.inr ⟨by rfl, rfl⟩) ?_ ?_
                        rotate_left
                        · simp only [Act.put, List.setIfInBounds_toArray, List.set_cons_zero, List.set_cons_succ, i64_w, i32_w]
                          rfl
                        refine pure_ (i := 10) (N := some 111) (v := ?_) (a' := ?_) #[true, true, true, true, true, true, true, true, true, true, true, false, false, false, false, false, false, false, false, false, false] rfl rfl (any_of HT_.out (by kernel_rfl)) (fun _ _ _ h => h) (Or.inl ⟨by rfl, ?_⟩) ?_ ?_
                        rotate_left
                        · intro w'
                          go_simp
                          with_reducible rfl
                        rotate_left
                        · simp only [Act.put, List.setIfInBounds_toArray, List.set_cons_zero, List.set_cons_succ, i64_w, i32_w]
                          rfl
                        refine pure_ (i := 11) (N := some 112) (v := ?_) (a' := ?_) #[true, true, true, true, true, true, true, true, true, true, true, true, false, false, false, false, false, false, false, false, false] rfl rfl (any_of HT_.out (by kernel_rfl)) (fun _ _ _ h => h) (Or.inl ⟨by rfl, ?_⟩) ?_ ?_
                        rotate_left
                        · intro w'
                          go_simp
                          with_reducible rfl
                        rotate_left
                        · simp only [Act.put, List.setIfInBounds_toArray, List.set_cons_zero, List.set_cons_succ, i64_w, i32_w]
                          rfl
                        refine pure_ (i := 12) (N := some 113) (v := undef) (a' := ?_) #[true, true, true, true, true, true, true, true, true, true, true, true, true, false, false, false, false, false, false, false, false] rfl rfl (any_of HT_.out (by kernel_rfl)) (fun _ _ _ h => h) (Or.inr ⟨by rfl, rfl⟩) ?_ ?_
                        rotate_left
                        · simp only [Act.put, List.setIfInBounds_toArray, List.set_cons_zero, List.set_cons_succ, i64_w, i32_w]
                          rfl
                        refine pure_ (i := 13) (N := some 114) (v := undef) (a' := ?_) #[true, true, true, true, true, true, true, true, true, true, true, true, true, true, false, false, false, false, false, false, false] rfl rfl (any_of HT_.out (by kernel_rfl)) (fun _ _ _ h => h) (Or.inr ⟨by rfl, rfl⟩) ?_ ?_
                        rotate_left
                        · simp only [Act.put, List.setIfInBounds_toArray, List.set_cons_zero, List.set_cons_succ, i64_w, i32_w]
                          rfl
                        refine pure_ (i := 14) (N := some 115) (v := undef) (a' := ?_) #[true, true, true, true, true, true, true, true, true, true, true, true, true, true, true, false, false, false, false, false, false] rfl rfl (any_of HT_.out (by kernel_rfl)) (fun _ _ _ h => h) (Or.inr ⟨by rfl, rfl⟩) ?_ ?_
                        rotate_left
                        · simp only [Act.put, List.setIfInBounds_toArray, List.set_cons_zero, List.set_cons_succ, i64_w, i32_w]
                          rfl
                        refine pure_ (i := 15) (N := some 116) (v := undef) (a' := ?_) #[true, true, true, true, true, true, true, true, true, true, true, true, true, true, true, true, false, false, false, false, false] rfl rfl (any_of HT_.out (by kernel_rfl)) (fun _ _ _ h => h) (Or.inr ⟨by rfl, rfl⟩) ?_ ?_
                        rotate_left
                        · simp only [Act.put, List.setIfInBounds_toArray, List.set_cons_zero, List.set_cons_succ, i64_w, i32_w]
                          rfl
                        refine pure_ (i := 16) (N := some 117) (v := undef) (a' := ?_) #[true, true, true, true, true, true, true, true, true, true, true, true, true, true, true, true, true, false, false, false, false] rfl rfl (any_of HT_.out (by kernel_rfl)) (fun _ _ _ h => h) (Or.inr ⟨by rfl, rfl⟩) ?_ ?_
                        rotate_left
                        · simp only [Act.put, List.setIfInBounds_toArray, List.set_cons_zero, List.set_cons_succ, i64_w, i32_w]
                          rfl
                        refine pure_ (i := 17) (N := some 118) (v := undef) (a' := ?_) #[true, true, true, true, true, true, true, true, true, true, true, true, true, true, true, true, true, true, false, false, false] rfl rfl (any_of HT_.out (by kernel_rfl)) (fun _ _ _ h => h) (Or.inr ⟨by rfl, rfl⟩) ?_ ?_
                        rotate_left
                        · simp only [Act.put, List.setIfInBounds_toArray, List.set_cons_zero, List.set_cons_succ, i64_w, i32_w]
                          rfl
                        refine pure_ (i := 18) (N := some 119) (v := ?_) (a' := ?_) #[true, true, true, true, true, true, true, true, true, true, true, true, true, true, true, true, true, true, true, false, false] rfl rfl (any_of HT_.out (by kernel_rfl)) (fun _ _ _ h => h) (Or.inl ⟨by rfl, ?_⟩) ?_ ?_
                        rotate_left
                        · intro w'
                          go_simp
                          with_reducible rfl
                        rotate_left
                        · simp only [Act.put, List.setIfInBounds_toArray, List.set_cons_zero, List.set_cons_succ, i64_w, i32_w]
                          rfl
                        refine pure_ (i := 19) (N := some 120) (v := ?_) (a' := ?_) #[true, true, true, true, true, true, true, true, true, true, true, true, true, true, true, true, true, true, true, true, false] rfl rfl (any_of HT_.out (by kernel_rfl)) (fun _ _ _ h => h) (Or.inl ⟨by rfl, ?_⟩) ?_ ?_
                        rotate_left
                        · intro w'
                          go_simp
                          with_reducible rfl
                        rotate_left
                        · simp only [Act.put, List.setIfInBounds_toArray, List.set_cons_zero, List.set_cons_succ, i64_w, i32_w]
                          rfl
                        refine pure_ (i := 20) (N := some 6) (v := ?_) (a' := ?_) #[true, true, true, true, true, true, true, true, true, true, true, true, true, true, true, true, true, true, true, true, true] rfl rfl (any_of HT_.out (by kernel_rfl)) (fun _ _ _ h => h) (Or.inl ⟨by rfl, ?_⟩) ?_ ?_
                        rotate_left
                        · intro w'
                          go_simp
                          with_reducible rfl
                        rotate_left
                        · simp only [Act.put, List.setIfInBounds_toArray, List.set_cons_zero, List.set_cons_succ, i64_w, i32_w]
                          rfl
                        refine done_ (done_of HT_.out (by kernel_rfl)) ?_
                        try go_wp2
                        go_ret
                        exact ⟨by first | rfl | (simp [errW_none, errW_some] <;> rfl) | (simp [*, errW_none, errW_some] <;> rfl), by repeat (first | (with_reducible first | exact HB.out | apply below_alloc | apply pw_below_drewN | apply below_drew1) | exact HB.out)⟩
                    · rw [if_neg c64] at H
                      have c64b0 : (t280 == 0) = false := beq_eq_false_iff_ne.mpr c64
                      have c64b1 : (t280 != 0) = true := bne_iff_ne.mpr c64
                      obtain rfl := Option.some.inj H
                      try go_wp2_with (first | ((with_reducible refine gate_callee (f := 19) rfl ?_); refine goesL_ (some 97) rfl rfl Try.func19 (by kernel_rfl) rfl #[.slice A2 l2.length c2] rfl (by (try simp only [List.map_toArray, List.map_cons, List.map_nil]); first | done | rfl | (simp only [List.length_drop, List.length_take]; rfl)) ?_; (with_reducible refine (word_TakeUvar.calls kj54 _ _ l2 t278 t279 t280 _ ?side1 ?side2 A63.out).mono ?_); (case side1 => repeat (first | exact (Kd.C_below HR2.out HB.out) | (with_reducible refine Kd.C_alloc ?_ _) | (with_reducible refine Kd.C_drewN ?_ _) | (with_reducible refine Kd.C_drew ?_))); (case side2 => exact HC2.out); rintro e w80 ⟨rfl, hb⟩; refine ⟨_, rfl, ?_⟩; have n0_ := Aside0.mk (below_step (by repeat (first | (with_reducible first | exact HB.out | apply below_alloc | apply pw_below_drewN | apply below_drew1) | exact HB.out)) hb); clear HB; have HB := n0_; clear n0_; (try clear hb); (try clear hb2); (try clear hk); (try clear hi)))
                      have n0_ := Aside0.mk (below_drew1 HB.out)
                      clear HB
                      have HB := n0_
                      clear n0_
                      refine start_ (n := 21) (S := fun w' => True) (ds := []) #[false, false, false, false, false, false, false, false, false, false, false, false, false, false, false, false, false, false, false, false, false] (by kernel_rfl) rfl rfl trivial (fun hHeld => ?_); refine with_tabW atticlaw01_WordBack.tab12 atticlaw01_WordBack.bits12 (fun HT_ HW_ => ?_)
                      generalize w80.drew = w81 at HB hHeld ⊢
                      refine pure_ (i := 0) (N := some 101) (v := ?_) (a' := ?_) #[true, false, false, false, false, false, false, false, false, false, false, false, false, false, false, false, false, false, false, false, false] rfl rfl (any_of HT_.out (by kernel_rfl)) (fun _ _ _ h => h) (Or.inl ⟨by rfl, ?_⟩) ?_ ?_
                      rotate_left
                      · intro w'
                        go_simp
                        with_reducible rfl
                      rotate_left
                      · simp only [Act.put, List.setIfInBounds_toArray, List.set_cons_zero, List.set_cons_succ, i64_w, i32_w]
                        rfl
                      refine pure_ (i := 1) (N := some 102) (v := ?_) (a' := ?_) #[true, true, false, false, false, false, false, false, false, false, false, false, false, false, false, false, false, false, false, false, false] rfl rfl (any_of HT_.out (by kernel_rfl)) (fun _ _ _ h => h) (Or.inl ⟨by rfl, ?_⟩) ?_ ?_
                      rotate_left
                      · intro w'
                        go_simp
                        with_reducible rfl
                      rotate_left
                      · simp only [Act.put, List.setIfInBounds_toArray, List.set_cons_zero, List.set_cons_succ, i64_w, i32_w]
                        rfl
                      refine pure_ (i := 2) (N := some 103) (v := ?_) (a' := ?_) #[true, true, true, false, false, false, false, false, false, false, false, false, false, false, false, false, false, false, false, false, false] rfl rfl (any_of HT_.out (by kernel_rfl)) (fun _ _ _ h => h) (Or.inl ⟨by rfl, ?_⟩) ?_ ?_
                      rotate_left
                      · intro w'
                        go_simp
                        with_reducible rfl
                      rotate_left
                      · simp only [Act.put, List.setIfInBounds_toArray, List.set_cons_zero, List.set_cons_succ, i64_w, i32_w]
                        rfl
                      refine pure_ (i := 3) (N := some 104) (v := undef) (a' := ?_) #[true, true, true, true, false, false, false, false, false, false, false, false, false, false, false, false, false, false, false, false, false] rfl rfl (any_of HT_.out (by kernel_rfl)) (fun _ _ _ h => h) (Or.inr ⟨by rfl, rfl⟩) ?_ ?_
                      rotate_left
                      · simp only [Act.put, List.setIfInBounds_toArray, List.set_cons_zero, List.set_cons_succ, i64_w, i32_w]
                        rfl
                      refine pure_ (i := 4) (N := some 105) (v := undef) (a' := ?_) #[true, true, true, true, true, false, false, false, false, false, false, false, false, false, false, false, false, false, false, false, false] rfl rfl (any_of HT_.out (by kernel_rfl)) (fun _ _ _ h => h) (Or.inr ⟨by rfl, rfl⟩) ?_ ?_
                      rotate_left
                      · simp only [Act.put, List.setIfInBounds_toArray, List.set_cons_zero, List.set_cons_succ, i64_w, i32_w]
                        rfl
                      refine pure_ (i := 5) (N := some 106) (v := undef) (a' := ?_) #[true, true, true, true, true, true, false, false, false, false, false, false, false, false, false, false, false, false, false, false, false] rfl rfl (any_of HT_.out (by kernel_rfl)) (fun _ _ _ h => h) (Or.inr ⟨by rfl, rfl⟩) ?_ ?_
                      rotate_left
                      · simp only [Act.put, List.setIfInBounds_toArray, List.set_cons_zero, List.set_cons_succ, i64_w, i32_w]
                        rfl
                      refine pure_ (i := 6) (N := some 107) (v := undef) (a' := ?_) #[true, true, true, true, true, true, true, false, false, false, false, false, false, false, false, false, false, false, false, false, false] rfl rfl (any_of HT_.out (by kernel_rfl)) (fun _ _ _ h => h) (Or.inr ⟨by rfl, rfl⟩) ?_ ?_
                      rotate_left
                      · simp only [Act.put, List.setIfInBounds_toArray, List.set_cons_zero, List.set_cons_succ, i64_w, i32_w]
                        rfl
                      refine pure_ (i := 7) (N := some 108) (v := undef) (a' := ?_) #[true, true, true, true, true, true, true, true, false, false, false, false, false, false, false, false, false, false, false, false, false] rfl rfl (any_of HT_.out (by kernel_rfl)) (fun _ _ _ h => h) (Or.inr ⟨by rfl, rfl⟩) ?_ ?_
                      rotate_left
                      · simp only [Act.put, List.setIfInBounds_toArray, List.set_cons_zero, List.set_cons_succ, i64_w, i32_w]
                        rfl
                      refine pure_ (i := 8) (N := some 109) (v := undef) (a' := ?_) #[true, true, true, true, true, true, true, true, true, false, false, false, false, false, false, false, false, false, false, false, false] rfl rfl (any_of HT_.out (by kernel_rfl)) (fun _ _ _ h => h) (Or.inr ⟨by rfl, rfl⟩) ?_ ?_
                      rotate_left
                      · simp only [Act.put, List.setIfInBounds_toArray, List.set_cons_zero, List.set_cons_succ, i64_w, i32_w]
                        rfl
                      refine pure_ (i := 9) (N := some 110) (v := undef) (a' := ?_) #[true, true, true, true, true, true, true, true, true, true, false, false, false, false, false, false, false, false, false, false, false] rfl rfl (any_of HT_.out (by kernel_rfl)) (fun _ _ _ h => h) (Or.inr ⟨by rfl, rfl⟩) ?_ ?_
                      rotate_left
                      · simp only [Act.put, List.setIfInBounds_toArray, List.set_cons_zero, List.set_cons_succ, i64_w, i32_w]
                        rfl
                      refine pure_ (i := 10) (N := some 111) (v := undef) (a' := ?_) #[true, true, true, true, true, true, true, true, true, true, true, false, false, false, false, false, false, false, false, false, false] rfl rfl (any_of HT_.out (by kernel_rfl)) (fun _ _ _ h => h) (Or.inr ⟨by rfl, rfl⟩) ?_ ?_
                      rotate_left
                      · simp only [Act.put, List.setIfInBounds_toArray, List.set_cons_zero, List.set_cons_succ, i64_w, i32_w]
                        rfl
                      refine pure_ (i := 11) (N := some 112) (v := undef) (a' := ?_) #[true, true, true, true, true, true, true, true, true, true, true, true, false, false, false, false, false, false, false, false, false] rfl rfl (any_of HT_.out (by kernel_rfl)) (fun _ _ _ h => h) (Or.inr ⟨by rfl, rfl⟩) ?_ ?_
                      rotate_left
                      · simp only [Act.put, List.setIfInBounds_toArray, List.set_cons_zero, List.set_cons_succ, i64_w, i32_w]
                        rfl
                      refine pure_ (i := 12) (N := some 113) (v := undef) (a' := ?_) #[true, true, true, true, true, true, true, true, true, true, true, true, true, false, false, false, false, false, false, false, false] rfl rfl (any_of HT_.out (by kernel_rfl)) (fun _ _ _ h => h) (Or.inr ⟨by rfl, rfl⟩) ?_ ?_
                      rotate_left
                      · simp only [Act.put, List.setIfInBounds_toArray, List.set_cons_zero, List.set_cons_succ, i64_w, i32_w]
                        rfl
                      refine pure_ (i := 13) (N := some 114) (v := undef) (a' := ?_) #[true, true, true, true, true, true, true, true, true, true, true, true, true, true, false, false, false, false, false, false, false] rfl rfl (any_of HT_.out (by kernel_rfl)) (fun _ _ _ h => h) (Or.inr ⟨by rfl, rfl⟩) ?_ ?_
                      rotate_left
                      · simp only [Act.put, List.setIfInBounds_toArray, List.set_cons_zero, List.set_cons_succ, i64_w, i32_w]
                        rfl
                      refine pure_ (i := 14) (N := some 115) (v := undef) (a' := ?_) #[true, true, true, true, true, true, true, true, true, true, true, true, true, true, true, false, false, false, false, false, false] rfl rfl (any_of HT_.out (by kernel_rfl)) (fun _ _ _ h => h) (Or.inr ⟨by rfl, rfl⟩) ?_ ?_
                      rotate_left
                      · simp only [Act.put, List.setIfInBounds_toArray, List.set_cons_zero, List.set_cons_succ, i64_w, i32_w]
                        rfl
                      refine pure_ (i := 15) (N := some 116) (v := undef) (a' := ?_) #[true, true, true, true, true, true, true, true, true, true, true, true, true, true, true, true, false, false, false, false, false] rfl rfl (any_of HT_.out (by kernel_rfl)) (fun _ _ _ h => h) (Or.inr ⟨by rfl, rfl⟩) ?_ ?_
                      rotate_left
                      · simp only [Act.put, List.setIfInBounds_toArray, List.set_cons_zero, List.set_cons_succ, i64_w, i32_w]
                        rfl
                      refine pure_ (i := 16) (N := some 117) (v := undef) (a' := ?_) #[true, true, true, true, true, true, true, true, true, true, true, true, true, true, true, true, true, false, false, false, false] rfl rfl (any_of HT_.out (by kernel_rfl)) (fun _ _ _ h => h) (Or.inr ⟨by rfl, rfl⟩) ?_ ?_
                      rotate_left
                      · simp only [Act.put, List.setIfInBounds_toArray, List.set_cons_zero, List.set_cons_succ, i64_w, i32_w]
                        rfl
                      refine pure_ (i := 17) (N := some 118) (v := undef) (a' := ?_) #[true, true, true, true, true, true, true, true, true, true, true, true, true, true, true, true, true, true, false, false, false] rfl rfl (any_of HT_.out (by kernel_rfl)) (fun _ _ _ h => h) (Or.inr ⟨by rfl, rfl⟩) ?_ ?_
                      rotate_left
                      · simp only [Act.put, List.setIfInBounds_toArray, List.set_cons_zero, List.set_cons_succ, i64_w, i32_w]
                        rfl
                      refine pure_ (i := 18) (N := some 119) (v := undef) (a' := ?_) #[true, true, true, true, true, true, true, true, true, true, true, true, true, true, true, true, true, true, true, false, false] rfl rfl (any_of HT_.out (by kernel_rfl)) (fun _ _ _ h => h) (Or.inr ⟨by rfl, rfl⟩) ?_ ?_
                      rotate_left
                      · simp only [Act.put, List.setIfInBounds_toArray, List.set_cons_zero, List.set_cons_succ, i64_w, i32_w]
                        rfl
                      refine pure_ (i := 19) (N := some 120) (v := ?_) (a' := ?_) #[true, true, true, true, true, true, true, true, true, true, true, true, true, true, true, true, true, true, true, true, false] rfl rfl (any_of HT_.out (by kernel_rfl)) (fun _ _ _ h => h) (Or.inl ⟨by rfl, ?_⟩) ?_ ?_
                      rotate_left
                      · intro w'
                        go_simp
                        with_reducible rfl
                      rotate_left
                      · simp only [Act.put, List.setIfInBounds_toArray, List.set_cons_zero, List.set_cons_succ, i64_w, i32_w]
                        rfl
                      refine pure_ (i := 20) (N := some 6) (v := ?_) (a' := ?_) #[true, true, true, true, true, true, true, true, true, true, true, true, true, true, true, true, true, true, true, true, true] rfl rfl (any_of HT_.out (by kernel_rfl)) (fun _ _ _ h => h) (Or.inl ⟨by rfl, ?_⟩) ?_ ?_
                      rotate_left
                      · intro w'
                        go_simp
                        with_reducible rfl
                      rotate_left
                      · simp only [Act.put, List.setIfInBounds_toArray, List.set_cons_zero, List.set_cons_succ, i64_w, i32_w]
                        rfl
                      refine done_ (done_of HT_.out (by kernel_rfl)) ?_
                      try go_wp2
                      go_ret
                      exact ⟨by first | rfl | (simp [errW_none, errW_some] <;> rfl) | (simp [*, errW_none, errW_some] <;> rfl), by repeat (first | (with_reducible first | exact HB.out | apply below_alloc | apply pw_below_drewN | apply below_drew1) | exact HB.out)⟩
      · rw [if_neg c10] at H
        exact absurd H (by simp)
    · rw [if_neg c7] at H
      exact absurd H (by simp)
  · replace c5 := Bool.eq_false_iff.mpr c5
    subst c5
    have H1 : (some false) = some r := by rw [if_neg (show ¬ (false = true) by decide)] at H; exact H
    clear H
    have H := H1
    clear H1
    obtain rfl := Option.some.inj H
    go_enter Try.func8, Try.ntmps8
    go_wp2_with (first | ((with_reducible refine gate_callee (f := 11) rfl ?_); refine goesL_ (some 15) rfl rfl Try.func11 (by kernel_rfl) rfl #[] rfl (by (try simp only [List.map_toArray, List.map_cons, List.map_nil]); first | done | rfl | (simp only [List.length_drop, List.length_take]; rfl)) ?_; (with_reducible refine (atticlaw01_live.calls  false _ A4.out).mono ?_); rintro e w82 ⟨rfl, hb⟩; refine ⟨_, rfl, ?_⟩; have n0_ := Aside0.mk (below_step (by repeat (first | (with_reducible first | exact HB.out | apply below_alloc | apply pw_below_drewN | apply below_drew1) | exact HB.out)) hb); clear HB; have HB := n0_; clear n0_; (try clear hb); (try clear hb2); (try clear hk); (try clear hi)))
    go_ret
    exact ⟨by first | rfl | (simp [errW_none, errW_some] <;> rfl) | (simp [*, errW_none, errW_some] <;> rfl), by repeat (first | (with_reducible first | exact HB.out | apply below_alloc | apply pw_below_drewN | apply below_drew1) | exact HB.out)⟩

/-- THE ONE PURE STATEMENT of atticlaw01_WordBack: yours. -/
def atticlaw01_WordBack.Pure : Prop := ∀ (a0 : Int) (a1 : Int) (l2 : List Int), (Lit.int .u64 a0).wf = true → (Lit.int .u8 a1).wf = true → l2.length ≤ maxLen → l2.length * 1 ≤ 140737488351232 → (∀ x ∈ l2, (Lit.int .u8 x).wf = true) → ∃ k, atticlaw01_WordBack.f k a0 a1 l2 = some true
theorem atticlaw01_WordBack.walk (P : atticlaw01_WordBack.Pure) (a0 : Int) (a1 : Int) (a2 : Option Addr) (len2 cap2 : Nat) (z2 : List Int) (w : World) (w0 : (Lit.int .u64 a0).wf = true) (w1 : (Lit.int .u8 a1).wf = true) (w2 : (a2 = none ∧ len2 = 0 ∧ cap2 = 0 ∧ z2 = []) ∨ ∃ x, a2 = some x ∧ len2 ≤ cap2 ∧ cap2 ≤ maxLen ∧ z2.length = cap2 ∧ (∀ i, i < z2.length → w.cell? (x.add i) = some (.int .u8 (z2.getD i 0))) ∧ ∀ n ∈ z2, (Lit.int .u8 n).wf = true) (y2 : len2 * 1 ≤ 140737488351232) :
    Calls Try.prog 8 #[.int .u64 a0, .int .u8 a1, .slice a2 len2 cap2] w fun e w' => e = .returned (.bool true) ∧ Below w.heap.size w w' := by
  obtain ⟨l2, rfl, hr2, hm2, hw2, hc2⟩ := ReadsInt.ofRowC w2
  obtain ⟨k, h⟩ := P a0 a1 l2 w0 w1 hm2 y2 hw2
  refine (atticlaw01_WordBack.calls k a0 a1 _ _ l2 true w (Kd.C_of_reads (d := (0 : Int)) (h1 := fun _ => rfl) hr2) hc2 h).mono ?_
  rintro e w' ⟨rfl, hd⟩
  exact ⟨rfl, hd⟩

end Go.Proofs.Ytnhihiadmllnkaa.PAll
