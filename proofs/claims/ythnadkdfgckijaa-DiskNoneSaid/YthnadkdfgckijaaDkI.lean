/- The iterator over what is pending, from the last one on: walked. -/
import Derived.Test.YthnadkdfgckijaaDkW
import Derived.Test.YthnadkdfgckijaaOwn
import Derived.Test.YthnadkdfgckijaaWKept
import Derived.RangeFuncBox
import Derived.RangeFuncCalls
import Derived.RangeFuncFrom
import Derived.RangeFuncMany
import Derived.RangeFuncLeaves
import Derived.Shelf.Abstract
import Derived.OwnWalkIn
import Derived.TacticsInMore
import Derived.LoopNIn
import Derived.LoopIn
import Derived.BigFrameIn
import Derived.Deep.RegionWith
import Derived.Deep.Cut
import Derived.Deep.CutRange
import Derived.Deep.RegionHeld3
namespace Go.Proofs.Ythnadkdfgckijaa.Pure
open Go.RowKit Go.Proofs.Ythnadkdfgckijaa Go.Proofs.Ythnadkdfgckijaa.PAll Go.Proofs.Ythnadkdfgckijaa.Mem Go.Proofs.YthnadkdfgckijaaW.PrintWords Go.Proofs.YthnadkdfgckijaaW.PrintLast Go.Proofs.YthnadkdfgckijaaW.PrintMore
set_option linter.unusedVariables false
set_option linter.unusedSimpArgs false

/-- The order in which what is pending comes up. -/
def down (N : Nat) : List Nat := (List.range N).reverse
theorem down_len (N : Nat) : (down N).length = N := by simp [down]
theorem down_take (N k x : Nat) (h : k + x + 1 = N) : (down N).take (k + 1) = (down N).take k ++ [x] := by
  rw [List.take_add_one]
  congr 1
  unfold down
  rw [List.getElem?_reverse (by simp; omega), List.length_range, List.getElem?_range (by omega)]
  simp
  omega
abbrev wenc (cI : Nat → Int) (cA : Nat → Option Addr) (cC : Nat → Nat) (x : Nat) : Array Value := #[.int .i64 (x : Int), .agg #[.int .i64 (cI x), .slice (cA x) 256 (cC x)]]
set_option maxRecDepth 100000 in
set_option maxHeartbeats 4000000 in
theorem go87 (n : Nat) (hn : 1 ≤ n) (lo : Nat) (N cP : Nat) (AP : Option Addr) (cI : Nat → Int) (cA : Nat → Option Addr) (cC : Nat → Nat) (gb : Nat) (S : Nat → Prop) (J Jx : List Nat → World → Prop) (w : World) (hN : N ≤ 1000000)
    (hb : Boxed w gb 53 (.slice AP N cP)) (hbS : ¬ S gb) (hC : ∀ x, x < N → ∃ ad, AP = some ad ∧ ad.block < w.heap.size ∧ ¬ S ad.block ∧ w.cell? (ad.add (x * 2)) = some (.int .i64 (cI x)) ∧ w.cell? ⟨(ad.add (x * 2)).block, (ad.add (x * 2)).off + 1, none⟩ = some (.slice (cA x) 256 (cC x)))
    (hY : ∀ pre x W, J pre W → pre.length < N → YieldAt Fence.wide (n - 1) Try.prog lo (wenc cI cA cC x) W fun e W' =>
      (e = .returned (.bool true) ∧ J (pre ++ [x]) W' ∧ Kept W W' S) ∨ (e = .returned (.bool false) ∧ Jx (pre ++ [x]) W'))
    (W : World) (hW : Kept w W S) (hJ0 : J [] W) :
    CallsIn Fence.wide n Try.prog 87 #[.func (.yield lo) #[] #[], .pointer (some ⟨gb, 0, none⟩)] W fun e W' => (∃ v, e = .returned v) ∧
      ((∃ zs, zs = down N ∧ J zs W') ∨ (∃ pre, (∃ k, k ≤ N ∧ pre = (down N).take k) ∧ Jx pre W')) := by
  have HY := Aside0.mk hY
  have BX := Aside0.mk (show ∀ W', Kept w W' S → W'.cell? ⟨gb, 0, none⟩ = some (.slice AP N cP) from fun W' hk => (show Boxed W' gb 53 _ from (hk.2 gb hb.lt hbS).trans hb).cell)
  have RX := Aside0.mk (show ∀ W', Kept w W' S → ∀ x (h : x < N), ∃ ad, AP = some ad ∧ W'.cell? (ad.add (x * 2)) = some (.int .i64 (cI x)) ∧ W'.cell? ⟨(ad.add (x * 2)).block, (ad.add (x * 2)).off + 1, none⟩ = some (.slice (cA x) 256 (cC x)) from fun W' hk x h => by
    obtain ⟨ad, h1, h2, h3, h4, h5⟩ := hC x h
    have hbk := hk.2 ad.block h2 h3
    refine ⟨ad, h1, (World.cell?_of_block (by rw [add_block]; exact hbk)).trans h4, (World.cell?_of_block (by show W'.heap[(ad.add (x * 2)).block]? = _; rw [add_block]; exact hbk)).trans h5⟩)
  have b1 := BX.out W hW
  have HW := Aside0.mk hW
  have HJ0 := Aside0.mk hJ0
  have NN := Aside0.mk hN
  clear hY hb hbS hC hW hJ0 hN
  refine callsIn_of_wp Try.func87 rfl trivial ?_ rfl
  simp only [Try.ntmps87, List.size_toArray, List.length_cons, List.length_nil, Nat.reduceAdd, Nat.reduceSub, Array.replicate_succ, Array.replicate_zero, List.push_toArray, List.append_toArray, List.nil_append, List.cons_append]
  have hw0 : wrap64 ((N : Int) - 1) = (N : Int) - 1 := w64id (by omega) (by have := NN.out; omega)
  gi_wp2_with fail
  clear b1
  have HW0 := Aside0.mk hw0
  clear hw0
  gi_loopw [3] (fun v wr => ∃ (k : Nat) (z : Int), v = .int .i64 z ∧ Aside0 (z + k + 1 = (N : Int) ∧ k ≤ N) ∧ Aside0 (Kept w wr S) ∧ Aside0 (J ((down N).take k) wr)) (fun v _ => (intOf v + 1).toNat)
  case atStart => exact ⟨0, (N : Int) - 1, (by first | rfl | rw [HW0.out]), ⟨by omega, Nat.zero_le _⟩, HW, ⟨by rw [List.take_zero]; exact HJ0.out⟩⟩
  case round =>
    obtain ⟨k, z, rfl, HZ, HK, HJ⟩ := hrel
    by_cases hlt : k < N
    · obtain ⟨x, hx⟩ : ∃ x : Nat, k + x + 1 = N := ⟨N - k - 1, by omega⟩
      obtain rfl : z = (x : Int) := by have := HZ.out.1; omega
      have hxN : x < N := by omega
      have hgd : decide ((x : Int) ≥ 0) = true := decide_eq_true (by omega)
      have hgd2 : decide ((0 : Int) ≤ (x : Int)) = true := decide_eq_true (by omega)
      have b1 := BX.out wr HK.out
      obtain ⟨ad, hAP, q0, q1⟩ := RX.out wr HK.out x hxN
      obtain ⟨fn, tmps, assign, body, hy, hR⟩ := HY.out _ x wr HJ.out (by rw [List.length_take, down_len]; omega)
      dsimp only [wenc] at hy
      subst hAP
      have HR := Aside0.mk hR
      have HX := Aside0.mk (And.intro hx hxN)
      have hw1 : wrap64 ((x : Int) - 1) = (x : Int) - 1 := w64id (by omega) (by have := NN.out; omega)
      clear hR hx hlt
      gi_wp2_with fail
      refine HR.out.mono ?_
      rintro e W3 (⟨rfl, hJ3, hK3⟩ | ⟨rfl, hJx3⟩)
      · have HJ3 := Aside0.mk hJ3
        have HK3 := Aside0.mk (HK.out.then_ hK3 (fun _ h => .inl h))
        clear hJ3 hK3 hy HR q0 q1 b1
        gi_wp2_with fail
        go_roundw
        case rel => exact ⟨k + 1, (x : Int) - 1, (by first | rfl | rw [hw1]), ⟨by have := HX.out.1; omega, by have := HX.out; omega⟩, HK3, ⟨by rw [down_take N k x HX.out.1]; exact HJ3.out⟩⟩
        case measure => simp [intOf]; omega
      · have HJX := Aside0.mk hJx3
        clear hy HR q0 q1 b1 hJx3
        gi_wp2_with fail
        refine bodyPost_ret (results_none rfl _ _ _) rfl ?_
        exact ⟨⟨_, rfl⟩, .inr ⟨_, ⟨k + 1, by have := HX.out; omega, rfl⟩, by rw [down_take N k x HX.out.1]; exact HJX.out⟩⟩
    · obtain rfl : k = N := by have := HZ.out.2; omega
      obtain rfl : z = -1 := by have := HZ.out.1; omega
      have HJ' := Aside0.mk (show J (down k) wr from by have h := HJ.out; rw [List.take_of_length_le (by rw [down_len]; exact Nat.le_refl _)] at h; exact h)
      clear HJ hlt
      gi_wp2_with fail
      go_end0
      exact ⟨⟨_, rfl⟩, .inl ⟨_, rfl, HJ'.out⟩⟩
theorem go87_stops (n : Nat) (hn : 1 ≤ n) (N cP : Nat) (AP : Option Addr) (cI : Nat → Int) (cA : Nat → Option Addr) (cC : Nat → Nat) (gb : Nat) (S : Nat → Prop) (w : World) (hN : N ≤ 1000000)
    (hb : Boxed w gb 53 (.slice AP N cP)) (hbS : ¬ S gb) (hC : ∀ x, x < N → ∃ ad, AP = some ad ∧ ad.block < w.heap.size ∧ ¬ S ad.block ∧ w.cell? (ad.add (x * 2)) = some (.int .i64 (cI x)) ∧ w.cell? ⟨(ad.add (x * 2)).block, (ad.add (x * 2)).off + 1, none⟩ = some (.slice (cA x) 256 (cC x))) :
    SeqStopsK Fence.wide n Try.prog 87 #[.pointer (some ⟨gb, 0, none⟩)] (wenc cI cA cC) (fun X Y => Kept X Y S) (fun zs => zs = down N) (fun pre => ∃ k, k ≤ N ∧ pre = (down N).take k) N w := fun lo J Jx W hW hJ _ hY hJ0 => by
  exact go87 n hn lo N cP AP cI cA cC gb S J Jx w hN hb hbS hC (fun pre x W1 h1 h2 => hY pre x W1 h1 h2) W (Kept.of_below hW S) hJ0
set_option maxRecDepth 100000 in
theorem back_c (w : World) (A : Option Addr) (n c : Nat) : Calls Try.prog 59 #[.slice A n c] w fun e w' => ∃ gb, e = .returned (.func (.func 87) #[] #[.pointer (some ⟨gb, 0, none⟩)]) ∧ Boxed w' gb 53 (.slice A n c) ∧ w.heap.size ≤ gb ∧ Below w.heap.size w w' := by
  have K0 := Aside0.mk ((Below.refl w.heap.size w).alloc (Nat.le_refl _) (.cells #[.slice A n c] 53))
  go_enter Try.func59, Try.ntmps59
  go_wp2_with fail
  go_ret
  exact ⟨w.heap.size, rfl, Boxed.new w 53 _, Nat.le_refl _, K0.out⟩
theorem boxed_own {A B : World} {row : Option Nat} {g t : Nat} {cs : Array Value} {N : Nat} (h : A.heap[g]? = some (.cells cs t (0, 0))) (hg : A.grownBy B row) (hr : ∀ r, row = some r → N ≤ r ∧ ∃ o : Obj, A.heap[r]? = some o ∧ o.isCells = false) : B.heap[g]? = some (.cells cs t (0, 0)) := by
  refine (hg.block g (blk_lt h) (fun e => ?_)).trans h
  obtain ⟨_, o, ho, hc⟩ := hr g e.symm
  rw [h] at ho
  cases ho
  cases hc
theorem below_own {w A B : World} {row : Option Nat} {N : Nat} (h : Below w.heap.size w A) (hg : A.grownBy B row) (hr : ∀ r, row = some r → N ≤ r ∧ ∃ o : Obj, A.heap[r]? = some o ∧ o.isCells = false) (hN : w.heap.size ≤ N) : Below w.heap.size w B := by
  refine h.trans (Below.grown (Below.refl _ _) hg h.size (fun j e => ?_))
  have := (hr j e).1
  omega
theorem keeps_below {W W' : World} (h : Below W.heap.size W W') : KeepsOthers W W' := ⟨h.size, fun k o hk _ => (h.block k (blk_lt hk)).trans hk⟩
theorem hgo_of {A : World} {D : Nat} (h : A.heap[D]? = some (.deferred (some []))) : ∀ r, some D = some r → D ≤ r ∧ ∃ o : Obj, A.heap[r]? = some o ∧ o.isCells = false := fun r e => by
  cases e
  exact ⟨Nat.le_refl _, _, h, rfl⟩
end Go.Proofs.Ythnadkdfgckijaa.Pure
