/- Behind whatever is set of a new object just that is another one, for whatever list is handed in. -/
import Derived.Test.YtckdnkiacnonkaaSets
import Derived.Test.YtckdnkiacnonkaaArg
namespace Go.Proofs.Ytckdnkiacnonkaa.Pure
open Go.RowKit Go.Proofs.Ytckdnkiacnonkaa.PAll Go.Proofs.Ytckdnkiacnonkaa.Arg Go.Proofs.YtckdnkiacnonkaaW.PrintWords Go.Proofs.YtckdnkiacnonkaaW.PrintLast Go.Proofs.YtckdnkiacnonkaaW.PrintMore
set_option linter.unusedVariables false

/-- What a Set is made of. -/
def tySet : Ty := .cons .bool (.cons (.int .i64) (.cons (.int .u64) (.cons (.slice 1 (.int .u8)) .nil)))
def tySets : Ty := .slice 48 tySet
theorem ty50_is : tyOf Try.prog 9 50 = some tySets := by kernel_rfl
def setOf (x : Bool × Int × Int × List Int × Unit) : SetT := ⟨x.1, x.2.1, x.2.2.1.toNat, x.2.2.2.1⟩
theorem setOf_K {w : World} (x : Bool × Int × Int × List Int × Unit) (cs : List Value) (h : Ty.K w tySet x cs) : SetK w (setOf x) cs := by
  obtain ⟨p, i, u, l, q⟩ := x
  obtain ⟨c0, c1, rfl, h0, c2, c3, rfl, ⟨rfl, hi⟩, c4, c5, rfl, ⟨rfl, hu⟩, c6, c7, rfl, ⟨A, c, rfl, hl, hw, hr⟩, hn⟩ := h
  obtain rfl : c0 = [.bool p] := h0
  obtain rfl : c7 = [] := hn
  change List.length l ≤ c at hl
  change List.length l * 1 ≤ 140737488351232 at hw
  obtain ⟨hC, hb⟩ := ints_of (xs := l) hr
  have hu2 : ((u.toNat : Nat) : Int) = u ∧ u < 18446744073709551616 := by
    simp [Lit.wf, IntKind.min, IntKind.max, IntKind.signed, IntKind.bits] at hu
    omega
  refine ⟨A, c, ?_, hl, by show List.length l ≤ _; omega, wf64 hi, by show u.toNat < _; omega, bytes_wf hb, hC⟩
  show _ = [Value.bool p, Value.int .i64 i, Value.int .u64 ((u.toNat : Nat) : Int), Value.slice A (List.length l) c]
  rw [hu2.1]
  rfl
theorem ObjectSets (w : World) (a : Int) (_ha : (Lit.int .i64 a).wf = true) (b : Int) (_hb : (Lit.int .i64 b).wf = true) (c : Int) (_hc : (Lit.int .i64 c).wf = true) (v : Value) (x : tySets.T) (hx : Ty.K w tySets x [v]) :
    Calls Try.prog 7 #[.agg #[.int .i64 a, .int .i64 b, .int .i64 c], v] w fun e w' => e = .returned (.bool true) ∧ Below w.heap.size w w' := by
  obtain ⟨A, cp, hv, hl, _, hr⟩ := hx
  have hr2 := rows_map (R' := SetK w) setOf hr (fun p c hp => setOf_K p c hp)
  obtain rfl : v = _ := List.head_eq_of_cons_eq hv
  have hlen : (List.map setOf x).length = List.length (α := tySet.T) x := List.length_map _
  have := objectSets w a b c A cp (List.map setOf x) (by rw [hlen]; exact hr2) (by rw [hlen]; exact hl)
  rw [hlen] at this
  exact this
end Go.Proofs.Ytckdnkiacnonkaa.Pure
