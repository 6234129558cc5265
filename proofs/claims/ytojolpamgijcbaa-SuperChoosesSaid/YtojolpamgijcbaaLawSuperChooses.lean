-- Written for this claim: the row of SuperChooses, out of its walk.
import Derived.Test.YtojolpamgijcbaaRows
import Derived.Test.YtojolpamgijcbaaPureSuperChooses
import Derived.WalkKit
import Derived.ProofKit
import Derived.OpenShut
import Derived.ShutString
import Derived.ChangeOld
import Derived.Below
import Derived.SizedLaws
import Derived.Test.YtojolpamgijcbaaWSized
import Derived.Test.YtojolpamgijcbaaLeafW
namespace Go.Proofs.Ytojolpamgijcbaa.superChooses
open Go.ChangeShapes Go.WideShapes Go.ChangeAt Go.RowKit Go.Proofs.YtojolpamgijcbaaW.PrintWords
open Go.ChangeMaps (open_string shut_string)
set_option linter.unusedVariables false
theorem own : ownKnob Try.prog.godebug = none := by kernel_rfl
def Leaf.leaves41 : List TypeId := [2, 3, 3, 3, 3, 2, 2, 3, 3, 3, 3, 2, 4, 5, 5, 34]
theorem laidOut : laidOutB Try.prog = true := by kernel_rfl
def IsRow (k : IntKind) (w : World) (a : Option Addr) (len cap : Nat) (zs : List Int) : Prop :=
  (a = none ∧ len = 0 ∧ cap = 0 ∧ zs = []) ∨
  ∃ x, a = some x ∧ len ≤ cap ∧ cap ≤ maxLen ∧ zs.length = cap ∧ (∀ i, i < zs.length → w.cell? (x.add i) = some (.int k (zs.getD i 0))) ∧ ∀ n ∈ zs, (Lit.int k n).wf = true
set_option maxRecDepth 100000 in
theorem lifted (os : Os) (started : os.Started) (H : Type) (enc : TypeId × Value → H) :
    ReturnsInHanded {} Try.checked os 6 .any (Rows.superChoosesSpec.pre6 enc Try.prog Try.f6 Rows.superChoosesRow.domain false) (Rows.superChoosesSpec.post enc Try.prog Try.f6 false true false false) := by
  refine returnsInHanded_of_change_sized (C := Try.checked) own started (by kernel_rfl) Try.func6
    (ChangeSpec.witness6 (enc := enc) (C := Try.checked) false ⟨#[], #[.agg #[.int .i64 0, .int .i64 0, .int .i64 0, .int .i64 0, .int .i64 0, .int .i64 0, .int .i64 0, .int .i64 0, .int .i64 0, .int .i64 0, .int .i64 0, .int .i64 0, .bool false, .int .u8 0, .int .u8 0, .slice none 0 0]], []⟩ 8 (by kernel_rfl) (by kernel_rfl) (by kernel_rfl) (by kernel_rfl)) ?_
  intro W base args ds gs before hval0 hW hcnd hsz0 _
  have hsz : (DataW.weightsEach Try.prog (Try.f6.params.toList ++ Rows.superChoosesSpec.plain.varTypes Try.prog) (ds ++ gs)).all (· ≤ reachBytes) = true := hsz0
  have hval : ∀ (j : Nat) t v, Try.f6.params[j]? = some t → args[j]? = some v → Value.okWide Try.prog W .any base t v := hval0
  have hW' := hW
  obtain ⟨p, q, hA0, hV, rfl, hfz, hnd⟩ := hW
  have hA : DataW.TrodAll enc Try.prog W 0 (fun _ => true) true Try.f6.params.toList args.toList ds p := hA0
  rw [Try.params6] at hA hval hsz
  obtain ⟨v0, vs0, d0, ds0, p0, q0, hargs, rfl, rfl, h0, r0⟩ := trodAll_cons hA
  obtain ⟨rfl, rfl, rfl⟩ := trodAll_nil r0
  obtain rfl : args = #[v0] := by cases args; simp_all
  obtain ⟨rfl, rfl⟩ := trodVars_none hV
  have k0 := h0
  have lt0 : ∀ x ∈ p0, x.block < W.heap.size := by obtain ⟨m, hm⟩ := k0; exact DataW.trod_lt m _ _ _ hm
  obtain ⟨cs0, rfl, L0⟩ := LeafW.open_struct (ts := Leaf.leaves41) Try.underlying41 (by kernel_rfl) (hval 0 41 v0 rfl rfl) h0 (fun n hn => by simpa using List.all_eq_true.1 hsz n (DataW.weights_mem_each (j := 0) (t := 41) rfl rfl n hn))
  unfold Leaf.leaves41 at L0
  obtain ⟨a0_0, r0_0, rfl, w0_0, L0⟩ := LeafW.leaf_int Try.underlying2 L0
  obtain ⟨a0_1, r0_1, rfl, w0_1, L0⟩ := LeafW.leaf_int Try.underlying3 L0
  obtain ⟨a0_2, r0_2, rfl, w0_2, L0⟩ := LeafW.leaf_int Try.underlying3 L0
  obtain ⟨a0_3, r0_3, rfl, w0_3, L0⟩ := LeafW.leaf_int Try.underlying3 L0
  obtain ⟨a0_4, r0_4, rfl, w0_4, L0⟩ := LeafW.leaf_int Try.underlying3 L0
  obtain ⟨a0_5, r0_5, rfl, w0_5, L0⟩ := LeafW.leaf_int Try.underlying2 L0
  obtain ⟨a0_6, r0_6, rfl, w0_6, L0⟩ := LeafW.leaf_int Try.underlying2 L0
  obtain ⟨a0_7, r0_7, rfl, w0_7, L0⟩ := LeafW.leaf_int Try.underlying3 L0
  obtain ⟨a0_8, r0_8, rfl, w0_8, L0⟩ := LeafW.leaf_int Try.underlying3 L0
  obtain ⟨a0_9, r0_9, rfl, w0_9, L0⟩ := LeafW.leaf_int Try.underlying3 L0
  obtain ⟨a0_10, r0_10, rfl, w0_10, L0⟩ := LeafW.leaf_int Try.underlying3 L0
  obtain ⟨a0_11, r0_11, rfl, w0_11, L0⟩ := LeafW.leaf_int Try.underlying2 L0
  obtain ⟨a0_12, r0_12, hq_, M_⟩ := LeafW.leaf_bool Try.underlying4 L0
  subst hq_
  clear L0
  have L0 := M_
  clear M_
  obtain ⟨a0_13, r0_13, rfl, w0_13, L0⟩ := LeafW.leaf_int Try.underlying5 L0
  obtain ⟨a0_14, r0_14, rfl, w0_14, L0⟩ := LeafW.leaf_int Try.underlying5 L0
  obtain ⟨a0_15, len0_15, cap0_15, z0_15, r0_15, rfl, v0_15, y0_15, L0⟩ := LeafW.leaf_ints Try.underlying34 Try.underlying5 (by kernel_rfl) (show Try.prog.bytesOf 5 = 1 by kernel_rfl) L0
  have w0_15 : IsRow .u8 W a0_15 len0_15 cap0_15 z0_15 := by
    rcases v0_15 with h_ | ⟨x, h1_, _, h2_, h3_, h4_, h5_, h6_⟩
    · exact .inl h_
    · exact .inr ⟨x, h1_, h2_, h3_, by simpa using h4_, h5_, h6_⟩
  obtain rfl := LeafW.leaf_nil L0
  obtain ⟨l0_15, rfl, hr0_15, hm0_15, hw0_15, hc0_15⟩ := ReadsInt.ofRowC w0_15
  clear hA0 hval0 hsz0 hsz
  refine (Pure.SuperChoosesR W a0_0 w0_0 a0_1 w0_1 a0_2 w0_2 a0_3 w0_3 a0_4 w0_4 a0_5 w0_5 a0_6 w0_6 a0_7 w0_7 a0_8 w0_8 a0_9 w0_9 a0_10 w0_10 a0_11 w0_11 a0_12 a0_13 w0_13 a0_14 w0_14 a0_15 cap0_15 l0_15 hw0_15 y0_15 (Kd.C_of_reads (d := (0 : Int)) (h1 := fun _ => rfl) hr0_15) hc0_15).mono fun e W' ⟨he, bel⟩ => ?_
  subst he
  exact ⟨_, rfl, _, _, _, [], _, [], hW', trodAll_mk1 (shut_bool Try.underlying4 _), (trodAll_cons_mk (Below.trod laidOut (by kernel_rfl) (of_decide_eq_true (by kernel_rfl)) k0 bel lt0) trodAll_mk0), rfl, bel.frame _, fun h => by cases h⟩
theorem over : Rows.superChoosesRow.holds Try.pinned (OpenSpec.ofChange Rows.superChoosesSpec) :=
  OpenClaim.holds_of_wide 6 Try.f6 rfl rfl rfl rfl rfl rfl rfl ⟨rfl, rfl, rfl, rfl, rfl⟩ rfl rfl rfl rfl rfl (by kernel_rfl) Try.func6 (by kernel_rfl)
    (of_decide_eq_true (by kernel_rfl)) (by unfold Func.isWrapper; first | (rw [if_pos (by decide +kernel)]; kernel_rfl) | (rw [if_neg (by decide +kernel)]; exact ⟨rfl, rfl⟩))
    (fun os started H enc _ => lifted os started H enc)
theorem proved : Rows.SuperChoosesSaid := over
#print axioms proved
end Go.Proofs.Ytojolpamgijcbaa.superChooses
namespace Go.Proofs.Ytojolpamgijcbaa
/-- The row, under a short name, for the claim. -/
theorem superChooses_holds : Rows.SuperChoosesSaid := superChooses.proved
end Go.Proofs.Ytojolpamgijcbaa
