/- A script that comes in. -/
import Derived.Test.YthnadkdfgckijaaArg
import Derived.Test.YthnadkdfgckijaaDkP
namespace Go.Proofs.Ythnadkdfgckijaa.Pure
open Go.RowKit Go.Proofs.Ythnadkdfgckijaa Go.Proofs.Ythnadkdfgckijaa.PAll Go.Proofs.Ythnadkdfgckijaa.Mem Go.Proofs.Ythnadkdfgckijaa.Arg Go.Proofs.YthnadkdfgckijaaW.PrintWords Go.Proofs.YthnadkdfgckijaaW.PrintLast Go.Proofs.YthnadkdfgckijaaW.PrintMore
open Go.WideShapes Go.ChangeShapes
set_option linter.unusedVariables false
set_option linter.unusedSimpArgs false

def tyOp : Ty := .cons (.int .i64) (.cons (.int .i64) (.cons (.int .u8) (.cons (.int .i64) (.cons (.int .i64) (.cons (.slice 1 (.int .u8)) .nil)))))
def tyOps : Ty := .slice 64 tyOp
theorem ty22_is : tyOf Try.prog 9 22 = some tyOps := by kernel_rfl
def opOf (x : Int × Int × Int × Int × Int × List Int × Unit) : SOp := ⟨x.1, x.2.1, x.2.2.1, x.2.2.2.1, x.2.2.2.2.1, x.2.2.2.2.2.1⟩
/-- A row of bytes is made of bytes. -/
theorem bytes_of {l : List Int} (h : ∀ x ∈ l, (Lit.int .u8 x).wf = true) : Bytes l := by
  intro x hx
  have := h x hx
  simp [Lit.wf, IntKind.min, IntKind.max, IntKind.signed, IntKind.bits] at this
  omega
theorem opOf_K {w : World} (x : Int × Int × Int × Int × Int × List Int × Unit) (cs : List Value) (h : Ty.K w tyOp x cs) : ∃ Ap cp, cs = [.int .i64 (opOf x).do_, .int .i64 (opOf x).blk, .int .u8 (opOf x).fill, .int .i64 (opOf x).len, .int .i64 (opOf x).n, .slice Ap (opOf x).picks.length cp] ∧ (opOf x).picks.length ≤ cp ∧ (opOf x).picks.length ≤ 140737488351232 ∧ Kd.C (Kd.int .u8) w Ap (opOf x).picks.length (opOf x).picks ∧ Bytes (opOf x).picks := by
  obtain ⟨a, b, c, d, e, l, q⟩ := x
  obtain ⟨c0, c1, rfl, ⟨rfl, _⟩, c2, c3, rfl, ⟨rfl, _⟩, c4, c5, rfl, ⟨rfl, _⟩, c6, c7, rfl, ⟨rfl, _⟩, c8, c9, rfl, ⟨rfl, _⟩, c10, c11, rfl, ⟨A, cc, rfl, hl, hw, hr⟩, hn⟩ := h
  rw [show c11 = [] from hn]
  have hi := ints_of hr
  exact ⟨A, cc, rfl, hl, by have : (l : List Int).length * 1 ≤ 140737488351232 := hw; show l.length ≤ _; omega, hi.1, bytes_of hi.2⟩
theorem ops_of {w : World} {v : Value} {x : List (Int × Int × Int × Int × Int × List Int × Unit)} (h : Ty.K w tyOps x [v]) : ∃ A n c, v = .slice A n c ∧ n ≤ c ∧ OpsAt w A n (List.map opOf x) := by
  obtain ⟨A, c, hv, hl, hw, hr⟩ := h
  injection hv with hv _
  subst hv
  refine ⟨A, _, c, rfl, hl, List.length_map _, by have h2 : x.length * 64 ≤ 140737488351232 := hw; show x.length ≤ _; omega, fun j hj => ?_⟩
  rw [List.length_map] at hj
  obtain ⟨ad, hA, hc⟩ := hr.2.2 (by show 0 < x.length; omega)
  obtain ⟨cs, c1, c2, c3⟩ := hc j _ (List.getElem?_eq_getElem hj)
  obtain ⟨Ap, cp, rfl, p1, p2, p3, p4⟩ := opOf_K _ _ c2
  have eo : (List.map opOf x)[j]'(by rw [List.length_map]; exact hj) = opOf x[j] := List.getElem_map ..
  rw [eo]
  have hs : tyOp.sz = 6 := rfl
  have hcell : ∀ i v, ([Value.int .i64 (opOf x[j]).do_, .int .i64 (opOf x[j]).blk, .int .u8 (opOf x[j]).fill, .int .i64 (opOf x[j]).len, .int .i64 (opOf x[j]).n, .slice Ap (opOf x[j]).picks.length cp] : List Value)[i]? = some v → w.cell? (ad.add (j * 6 + i)) = some v := c3
  refine ⟨ad, Ap, cp, hA, ⟨?_, ?_, ?_, ?_, ?_, ?_⟩, p1, p2, p3, p4⟩
  · exact hcell 0 _ rfl
  · rw [← add_field ad (j * 6) 1 (by decide)]; exact hcell 1 _ rfl
  · rw [← add_field ad (j * 6) 2 (by decide)]; exact hcell 2 _ rfl
  · rw [← add_field ad (j * 6) 3 (by decide)]; exact hcell 3 _ rfl
  · rw [← add_field ad (j * 6) 4 (by decide)]; exact hcell 4 _ rfl
  · rw [← add_field ad (j * 6) 5 (by decide)]; exact hcell 5 _ rfl
end Go.Proofs.Ythnadkdfgckijaa.Pure
