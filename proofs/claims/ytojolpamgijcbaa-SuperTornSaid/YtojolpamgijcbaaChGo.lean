/- Which super counts: its range over two blocks. -/
import Derived.Test.YtojolpamgijcbaaRCh
import Derived.Test.YtojolpamgijcbaaWKept
import Derived.RangeFuncBox
import Derived.RangeFuncCalls
import Derived.RangeFuncFrom
import Derived.RangeFuncMany
import Derived.RangeFuncLeaves
import Derived.Shelf.Abstract
import Derived.OwnWalkIn
import Derived.TacticsInMore
import Derived.LoopNIn
import Derived.LoopIn
import Derived.BigFrameIn
import Derived.Deep.RegionWith
import Derived.Deep.Cut
import Derived.Deep.CutRange
import Derived.Deep.RegionHeld3
namespace Go.Proofs.Ytojolpamgijcbaa.Pure
open Go.RowKit Go.Proofs.Ytojolpamgijcbaa Go.Proofs.Ytojolpamgijcbaa.PAll Go.Proofs.Ytojolpamgijcbaa.PGt Go.Proofs.Ytojolpamgijcbaa.Mem Go.Proofs.YtojolpamgijcbaaW.PrintWords Go.Proofs.YtojolpamgijcbaaW.PrintLast Go.Proofs.YtojolpamgijcbaaW.PrintMore
set_option linter.unusedVariables false
set_option linter.unusedSimpArgs false

def rv (V0 V1 : Value) (i : Nat) : Value := if i = 0 then V0 else V1
abbrev penc (V0 V1 : Value) (i : Nat) : Array Value := #[.int .i64 (i : Int), rv V0 V1 i]
theorem two_take (k : Nat) (h : k < 2) : [0, 1].take (k + 1) = [0, 1].take k ++ [k] := by
  obtain rfl | rfl : k = 0 ∨ k = 1 := by omega
  all_goals rfl
set_option maxRecDepth 100000 in
set_option maxHeartbeats 4000000 in
theorem go48 (n : Nat) (hn : 1 ≤ n) (lo : Nat) (V0 V1 : Value) (gb g : Nat) (S : Nat → Prop) (J Jx : List Nat → World → Prop) (w : World)
    (hb : Boxed w gb 66 (.slice (some ⟨g, 0, none⟩) 2 2)) (hbS : ¬ S gb) (hg : w.heap[g]? = some (.cells #[V0, V1] 34 (0, 0))) (hgS : ¬ S g)
    (hY : ∀ pre x W, J pre W → pre.length < 2 → YieldAt Fence.wide (n - 1) Try.prog lo (penc V0 V1 x) W fun e W' =>
      (e = .returned (.bool true) ∧ J (pre ++ [x]) W' ∧ Kept W W' S) ∨ (e = .returned (.bool false) ∧ Jx (pre ++ [x]) W'))
    (W : World) (hW : Kept w W S) (hJ0 : J [] W) :
    CallsIn Fence.wide n Try.prog 48 #[.func (.yield lo) #[] #[], .pointer (some ⟨gb, 0, none⟩)] W fun e W' => (∃ v, e = .returned v) ∧
      ((∃ zs, zs = [0, 1] ∧ J zs W') ∨ (∃ pre, (∃ k, k ≤ 2 ∧ pre = ([0, 1] : List Nat).take k) ∧ Jx pre W')) := by
  have HY := Aside0.mk hY
  have BX := Aside0.mk (show ∀ W', Kept w W' S → W'.cell? ⟨gb, 0, none⟩ = some (.slice (some ⟨g, 0, none⟩) 2 2) from fun W' hk => (show Boxed W' gb 66 _ from (hk.2 gb hb.lt hbS).trans hb).cell)
  have RX := Aside0.mk (show ∀ W', Kept w W' S → ∀ k (h : k < 2), W'.cell? ⟨g, k, none⟩ = some (rv V0 V1 k) from fun W' hk k h => by
    have h1 := (hk.2 g (blk_lt hg) hgS).trans hg
    obtain rfl | rfl : k = 0 ∨ k = 1 := by omega
    all_goals (unfold World.cell?; simp only [h1]; rfl))
  have b1 := BX.out W hW
  have HW := Aside0.mk hW
  have HJ0 := Aside0.mk hJ0
  clear hY hb hbS hg hgS hW hJ0
  refine callsIn_of_wp Try.func48 rfl trivial ?_ rfl
  simp only [Try.ntmps48, List.size_toArray, List.length_cons, List.length_nil, Nat.reduceAdd, Nat.reduceSub, Array.replicate_succ, Array.replicate_zero, List.push_toArray, List.append_toArray, List.nil_append, List.cons_append]
  gi_wp2_with fail
  clear b1
  gi_loopw [7] (fun v wr => ∃ k : Nat, v = .int .i64 k ∧ k ≤ 2 ∧ Aside0 (Kept w wr S) ∧ Aside0 (J (([0, 1] : List Nat).take k) wr)) (fun v _ => 2 - (intOf v).toNat)
  case atStart => exact ⟨0, rfl, Nat.zero_le _, HW, ⟨by rw [List.take_zero]; exact HJ0.out⟩⟩
  case round =>
    obtain ⟨k, rfl, hk, HK, HJ⟩ := hrel
    by_cases hlt : k < 2
    · have hgd : decide (k < 2) = true := decide_eq_true hlt
      have hc := RX.out wr HK.out k hlt
      obtain ⟨x, hx⟩ : ∃ x, x = rv V0 V1 k := ⟨_, rfl⟩
      obtain ⟨fn, tmps, assign, body, hy, hR⟩ := HY.out _ k wr HJ.out (by rw [List.length_take]; simp; omega)
      dsimp only [penc] at hy
      rw [← hx] at hc hy
      have HR := Aside0.mk hR
      have hlo : (k : Int) ≤ 1000 := by omega
      clear hR hx hk
      gi_wp2_with fail
      refine HR.out.mono ?_
      rintro e W3 (⟨rfl, hJ3, hK3⟩ | ⟨rfl, hJx3⟩)
      · have HJ3 := Aside0.mk hJ3
        have HK3 := Aside0.mk (HK.out.then_ hK3 (fun _ h => .inl h))
        clear hJ3 hK3 hy HR hc
        gi_wp2_with fail
        go_roundw
        case rel => exact ⟨k + 1, by go_num, by omega, HK3, ⟨by rw [two_take k hlt]; exact HJ3.out⟩⟩
        case measure => simp [intOf]; omega
      · have HJX := Aside0.mk hJx3
        clear hy HR hc hJx3
        gi_wp2_with fail
        refine bodyPost_ret (results_none rfl _ _ _) rfl ?_
        exact ⟨⟨_, rfl⟩, .inr ⟨_, ⟨k + 1, by omega, rfl⟩, by rw [two_take k hlt]; exact HJX.out⟩⟩
    · obtain rfl : k = 2 := by omega
      have HJ' := Aside0.mk (show J [0, 1] wr from HJ.out)
      clear HJ hlt hk
      gi_wp2_with fail
      go_end0
      exact ⟨⟨_, rfl⟩, .inl (by first | exact HJ'.out | exact ⟨_, rfl, HJ'.out⟩)⟩
theorem go48_stops (n : Nat) (hn : 1 ≤ n) (V0 V1 : Value) (gb g : Nat) (S : Nat → Prop) (w : World)
    (hb : Boxed w gb 66 (.slice (some ⟨g, 0, none⟩) 2 2)) (hbS : ¬ S gb) (hg : w.heap[g]? = some (.cells #[V0, V1] 34 (0, 0))) (hgS : ¬ S g) :
    SeqStopsK Fence.wide n Try.prog 48 #[.pointer (some ⟨gb, 0, none⟩)] (penc V0 V1) (fun X Y => Kept X Y S) (fun zs => zs = [0, 1]) (fun pre => ∃ k, k ≤ 2 ∧ pre = ([0, 1] : List Nat).take k) 2 w := fun lo J Jx W hW hJ _ hY hJ0 => by
  exact go48 n hn lo V0 V1 gb g S J Jx w hb hbS hg hgS (fun pre x W1 h1 h2 => hY pre x W1 h1 h2) W (Kept.of_below hW S) hJ0
theorem all_c (w : World) (g : Nat) : Calls Try.prog 36 #[.slice (some ⟨g, 0, none⟩) 2 2] w fun e w' => ∃ gb, e = .returned (.func (.func 48) #[] #[.pointer (some ⟨gb, 0, none⟩)]) ∧ Boxed w' gb 66 (.slice (some ⟨g, 0, none⟩) 2 2) ∧ w.heap.size ≤ gb ∧ Below w.heap.size w w' := by
  have K0 := Aside0.mk ((Below.refl w.heap.size w).alloc (Nat.le_refl _) (.cells #[.slice (some ⟨g, 0, none⟩) 2 2] 66))
  go_enter Try.func36, Try.ntmps36
  go_wp2_with fail
  go_ret
  exact ⟨w.heap.size, rfl, Boxed.new w 66 _, Nat.le_refl _, K0.out⟩
theorem boxed_own {A B : World} {row : Option Nat} {g t : Nat} {cs : Array Value} {N : Nat} (h : A.heap[g]? = some (.cells cs t (0, 0))) (hg : A.grownBy B row) (hr : ∀ r, row = some r → N ≤ r ∧ ∃ o : Obj, A.heap[r]? = some o ∧ o.isCells = false) : B.heap[g]? = some (.cells cs t (0, 0)) := by
  refine (hg.block g (blk_lt h) (fun e => ?_)).trans h
  obtain ⟨_, o, ho, hc⟩ := hr g e.symm
  rw [h] at ho
  cases ho
  cases hc
theorem below_own {w A B : World} {row : Option Nat} {N : Nat} (h : Below w.heap.size w A) (hg : A.grownBy B row) (hr : ∀ r, row = some r → N ≤ r ∧ ∃ o : Obj, A.heap[r]? = some o ∧ o.isCells = false) (hN : w.heap.size ≤ N) : Below w.heap.size w B := by
  refine h.trans (Below.grown (Below.refl _ _) hg h.size (fun j e => ?_))
  have := (hr j e).1
  omega
theorem keeps_below {W W' : World} (h : Below W.heap.size W W') : KeepsOthers W W' := ⟨h.size, fun k o hk _ => (h.block k (blk_lt hk)).trans hk⟩
/-- What counts so far, behind the blocks pre. -/
structure S6 where
  v0 : Int
  v1 : Int
  v2 : Int
  v3 : Int
  v4 : Int
  v5 : Int
abbrev S6.cs (s : S6) : Array Value := supCs s.v0 s.v1 s.v2 s.v3 s.v4 s.v5
def stp (y z : S6) (ey ez : Int) (b : S6) (i : Nat) : S6 := if (if i = 0 then ey else ez) = 0 ∧ slotI (if i = 0 then y else z).v0 = (i : Int) ∧ (if i = 0 then y else z).v0 > b.v0 then (if i = 0 then y else z) else b
def bst (y z : S6) (ey ez : Int) (pre : List Nat) : S6 := pre.foldl (stp y z ey ez) ⟨0, 0, 0, 0, 0, 0⟩
theorem bst_snoc (y z : S6) (ey ez : Int) (pre : List Nat) (i : Nat) : bst y z ey ez (pre ++ [i]) = stp y z ey ez (bst y z ey ez pre) i := by simp [bst]
end Go.Proofs.Ytojolpamgijcbaa.Pure
