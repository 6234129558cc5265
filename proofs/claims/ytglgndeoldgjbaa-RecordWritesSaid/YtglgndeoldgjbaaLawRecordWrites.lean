-- Written for this claim: the row of RecordWrites, out of its walk.
import Derived.Test.YtglgndeoldgjbaaRows
import Derived.Test.YtglgndeoldgjbaaPureRecordWrites
import Derived.WalkKit
import Derived.ProofKit
import Derived.OpenShut
import Derived.ShutString
import Derived.ChangeOld
import Derived.Below
import Derived.SizedLaws
import Derived.Test.YtglgndeoldgjbaaWSized
import Derived.Test.YtglgndeoldgjbaaLeafW
namespace Go.Proofs.Ytglgndeoldgjbaa.recordWrites
open Go.ChangeShapes Go.WideShapes Go.ChangeAt Go.RowKit Go.Proofs.YtglgndeoldgjbaaW.PrintWords
open Go.ChangeMaps (open_string shut_string)
set_option linter.unusedVariables false
theorem own : ownKnob Try.prog.godebug = none := by kernel_rfl
def Leaf.leaves24 : List TypeId := [3, 3, 3, 22, 3]
theorem laidOut : laidOutB Try.prog = true := by kernel_rfl
def IsRow (k : IntKind) (w : World) (a : Option Addr) (len cap : Nat) (zs : List Int) : Prop :=
  (a = none ∧ len = 0 ∧ cap = 0 ∧ zs = []) ∨
  ∃ x, a = some x ∧ len ≤ cap ∧ cap ≤ maxLen ∧ zs.length = cap ∧ (∀ i, i < zs.length → w.cell? (x.add i) = some (.int k (zs.getD i 0))) ∧ ∀ n ∈ zs, (Lit.int k n).wf = true
set_option maxRecDepth 100000 in
theorem lifted (os : Os) (started : os.Started) (H : Type) (enc : TypeId × Value → H) :
    ReturnsInHanded {} Try.checked os 4 .any (Rows.recordWritesSpec.pre6 enc Try.prog Try.f4 Rows.recordWritesRow.domain false) (Rows.recordWritesSpec.post enc Try.prog Try.f4 false true false false) := by
  refine returnsInHanded_of_change_sized (C := Try.checked) own started (by kernel_rfl) Try.func4
    (ChangeSpec.witness6 (enc := enc) (C := Try.checked) false ⟨#[], #[.int .i64 0, .agg #[.int .i64 0, .int .i64 0, .int .i64 0, .slice none 0 0, .int .i64 0], .agg #[.int .i64 0, .int .i64 0, .int .i64 0, .slice none 0 0, .int .i64 0]], []⟩ 8 (by kernel_rfl) (by kernel_rfl) (by kernel_rfl) (by kernel_rfl)) ?_
  intro W base args ds gs before hval0 hW hcnd hsz0 _
  have hsz : (DataW.weightsEach Try.prog (Try.f4.params.toList ++ Rows.recordWritesSpec.plain.varTypes Try.prog) (ds ++ gs)).all (· ≤ reachBytes) = true := hsz0
  have hval : ∀ (j : Nat) t v, Try.f4.params[j]? = some t → args[j]? = some v → Value.okWide Try.prog W .any base t v := hval0
  have hW' := hW
  obtain ⟨p, q, hA0, hV, rfl, hfz, hnd⟩ := hW
  have hA : DataW.TrodAll enc Try.prog W 0 (fun _ => true) true Try.f4.params.toList args.toList ds p := hA0
  rw [Try.params4] at hA hval hsz
  obtain ⟨v0, vs0, d0, ds0, p0, q0, hargs, rfl, rfl, h0, r0⟩ := trodAll_cons hA
  obtain ⟨v1, vs1, d1, ds1, p1, q1, rfl, rfl, rfl, h1, r1⟩ := trodAll_cons r0
  obtain ⟨v2, vs2, d2, ds2, p2, q2, rfl, rfl, rfl, h2, r2⟩ := trodAll_cons r1
  obtain ⟨rfl, rfl, rfl⟩ := trodAll_nil r2
  obtain rfl : args = #[v0, v1, v2] := by cases args; simp_all
  obtain ⟨rfl, rfl⟩ := trodVars_none hV
  obtain ⟨a0, rfl, rfl, rfl, w0⟩ := open_int Try.underlying2 (hval 0 2 v0 rfl rfl) h0
  have k1 := h1
  have lt1 : ∀ x ∈ p1, x.block < W.heap.size := by obtain ⟨m, hm⟩ := k1; exact DataW.trod_lt m _ _ _ hm
  obtain ⟨cs1, rfl, L1⟩ := LeafW.open_struct (ts := Leaf.leaves24) Try.underlying24 (by kernel_rfl) (hval 1 24 v1 rfl rfl) h1 (fun n hn => by simpa using List.all_eq_true.1 hsz n (DataW.weights_mem_each (j := 1) (t := 24) rfl rfl n hn))
  unfold Leaf.leaves24 at L1
  obtain ⟨a1_0, r1_0, rfl, w1_0, L1⟩ := LeafW.leaf_int Try.underlying3 L1
  obtain ⟨a1_1, r1_1, rfl, w1_1, L1⟩ := LeafW.leaf_int Try.underlying3 L1
  obtain ⟨a1_2, r1_2, rfl, w1_2, L1⟩ := LeafW.leaf_int Try.underlying3 L1
  obtain ⟨a1_3, len1_3, cap1_3, z1_3, r1_3, rfl, v1_3, y1_3, L1⟩ := LeafW.leaf_ints Try.underlying22 Try.underlying5 (by kernel_rfl) (show Try.prog.bytesOf 5 = 1 by kernel_rfl) L1
  have w1_3 : IsRow .u8 W a1_3 len1_3 cap1_3 z1_3 := by
    rcases v1_3 with h_ | ⟨x, h1_, _, h2_, h3_, h4_, h5_, h6_⟩
    · exact .inl h_
    · exact .inr ⟨x, h1_, h2_, h3_, by simpa using h4_, h5_, h6_⟩
  obtain ⟨a1_4, r1_4, rfl, w1_4, L1⟩ := LeafW.leaf_int Try.underlying3 L1
  obtain rfl := LeafW.leaf_nil L1
  obtain ⟨l1_3, rfl, hr1_3, hm1_3, hw1_3, hc1_3⟩ := ReadsInt.ofRowC w1_3
  have k2 := h2
  have lt2 : ∀ x ∈ p2, x.block < W.heap.size := by obtain ⟨m, hm⟩ := k2; exact DataW.trod_lt m _ _ _ hm
  obtain ⟨cs2, rfl, L2⟩ := LeafW.open_struct (ts := Leaf.leaves24) Try.underlying24 (by kernel_rfl) (hval 2 24 v2 rfl rfl) h2 (fun n hn => by simpa using List.all_eq_true.1 hsz n (DataW.weights_mem_each (j := 2) (t := 24) rfl rfl n hn))
  unfold Leaf.leaves24 at L2
  obtain ⟨a2_0, r2_0, rfl, w2_0, L2⟩ := LeafW.leaf_int Try.underlying3 L2
  obtain ⟨a2_1, r2_1, rfl, w2_1, L2⟩ := LeafW.leaf_int Try.underlying3 L2
  obtain ⟨a2_2, r2_2, rfl, w2_2, L2⟩ := LeafW.leaf_int Try.underlying3 L2
  obtain ⟨a2_3, len2_3, cap2_3, z2_3, r2_3, rfl, v2_3, y2_3, L2⟩ := LeafW.leaf_ints Try.underlying22 Try.underlying5 (by kernel_rfl) (show Try.prog.bytesOf 5 = 1 by kernel_rfl) L2
  have w2_3 : IsRow .u8 W a2_3 len2_3 cap2_3 z2_3 := by
    rcases v2_3 with h_ | ⟨x, h1_, _, h2_, h3_, h4_, h5_, h6_⟩
    · exact .inl h_
    · exact .inr ⟨x, h1_, h2_, h3_, by simpa using h4_, h5_, h6_⟩
  obtain ⟨a2_4, r2_4, rfl, w2_4, L2⟩ := LeafW.leaf_int Try.underlying3 L2
  obtain rfl := LeafW.leaf_nil L2
  obtain ⟨l2_3, rfl, hr2_3, hm2_3, hw2_3, hc2_3⟩ := ReadsInt.ofRowC w2_3
  clear hA0 hval0 hsz0 hsz
  refine (Pure.RecordWritesR W a0 w0 a1_0 w1_0 a1_1 w1_1 a1_2 w1_2 a1_3 cap1_3 l1_3 hw1_3 y1_3 (Kd.C_of_reads (d := (0 : Int)) (h1 := fun _ => rfl) hr1_3) hc1_3 a1_4 w1_4 a2_0 w2_0 a2_1 w2_1 a2_2 w2_2 a2_3 cap2_3 l2_3 hw2_3 y2_3 (Kd.C_of_reads (d := (0 : Int)) (h1 := fun _ => rfl) hr2_3) hc2_3 a2_4 w2_4).mono fun e W' ⟨he, bel⟩ => ?_
  subst he
  exact ⟨_, rfl, _, _, _, [], _, [], hW', trodAll_mk1 (shut_bool Try.underlying4 _), (trodAll_cons_mk (shut_int Try.underlying2 w0) (trodAll_cons_mk (Below.trod laidOut (by kernel_rfl) (of_decide_eq_true (by kernel_rfl)) k1 bel lt1) (trodAll_cons_mk (Below.trod laidOut (by kernel_rfl) (of_decide_eq_true (by kernel_rfl)) k2 bel lt2) trodAll_mk0))), rfl, bel.frame _, fun h => by cases h⟩
theorem over : Rows.recordWritesRow.holds Try.pinned (OpenSpec.ofChange Rows.recordWritesSpec) :=
  OpenClaim.holds_of_wide 4 Try.f4 rfl rfl rfl rfl rfl rfl rfl ⟨rfl, rfl, rfl, rfl, rfl⟩ rfl rfl rfl rfl rfl (by kernel_rfl) Try.func4 (by kernel_rfl)
    (of_decide_eq_true (by kernel_rfl)) (by unfold Func.isWrapper; first | (rw [if_pos (by decide +kernel)]; kernel_rfl) | (rw [if_neg (by decide +kernel)]; exact ⟨rfl, rfl⟩))
    (fun os started H enc _ => lifted os started H enc)
theorem proved : Rows.RecordWritesSaid := over
#print axioms proved
end Go.Proofs.Ytglgndeoldgjbaa.recordWrites
namespace Go.Proofs.Ytglgndeoldgjbaa
/-- The row, under a short name, for the claim. -/
theorem recordWrites_holds : Rows.RecordWritesSaid := recordWrites.proved
end Go.Proofs.Ytglgndeoldgjbaa
