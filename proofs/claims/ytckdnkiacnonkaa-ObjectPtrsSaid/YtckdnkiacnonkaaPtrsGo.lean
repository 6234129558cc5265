/- ptrs: the pointers that are told, at most so many: its range over the function that Ptrs hands back. -/
import Derived.Test.YtckdnkiacnonkaaPtrs
namespace Go.Proofs.Ytckdnkiacnonkaa.Pure
open Go.RowKit Go.Proofs.Ytckdnkiacnonkaa.PAll Go.Proofs.Ytckdnkiacnonkaa.Mem Go.Proofs.YtckdnkiacnonkaaW.PrintWords Go.Proofs.YtckdnkiacnonkaaW.PrintLast Go.Proofs.YtckdnkiacnonkaaW.PrintMore
set_option linter.unusedVariables false
set_option linter.unusedSimpArgs false

/-- The pointers, each with its place. -/
def pairs (L : List Int) : List (Int × Int) := (List.range L.length).map (fun (i : Nat) => ((i : Int), L.getD i 0))
theorem pairs_length (L : List Int) : (pairs L).length = L.length := by simp [pairs]
theorem pairs_get (L : List Int) (i : Nat) (h : i < L.length) : (pairs L)[i]? = some ((i : Int), L[i]) := by
  simp [pairs, h, List.getD_eq_getElem?_getD]
theorem pairs_take (L : List Int) (i : Nat) (h : i < L.length) : (pairs L).take (i + 1) = (pairs L).take i ++ [((i : Int), L[i])] := by
  rw [List.take_succ_eq_append_getElem (by rw [pairs_length]; exact h)]
  have := pairs_get L i h
  rw [List.getElem?_eq_getElem (by rw [pairs_length]; exact h)] at this
  injection this with this
  rw [this]
theorem pairs_snd (L : List Int) : (pairs L).map (·.2) = L := by
  apply List.ext_getElem?
  intro i
  rcases Nat.lt_or_ge i L.length with h | h
  · rw [List.getElem?_map, pairs_get L i h, List.getElem?_eq_getElem h]
    rfl
  · rw [List.getElem?_eq_none (by rw [List.length_map, pairs_length]; exact h), List.getElem?_eq_none h]
abbrev pencs (p : Int × Int) : Array Value := #[.int .i64 p.1, .int .u64 p.2]
set_option maxRecDepth 100000 in
set_option maxHeartbeats 4000000 in
theorem go1 (n : Nat) (hn : 1 ≤ n) (lo : Nat) (L : List Int) (gb g : Nat) (S : Nat → Prop) (J Jx : List (Int × Int) → World → Prop) (w : World) (hlen : L.length ≤ 1000)
    (hb : Boxed w gb 40 (.slice (some ⟨g, 0, none⟩) L.length L.length)) (hbS : ¬ S gb) (hg : w.heap[g]? = some (.cells (encs (Value.int .u64) L).toArray 36 (0, 0))) (hgS : ¬ S g)
    (hY : ∀ pre x W, J pre W → pre.length < L.length → YieldAt Fence.wide (n - 1) Try.prog lo (pencs x) W fun e W' =>
      (e = .returned (.bool true) ∧ J (pre ++ [x]) W' ∧ Kept W W' S) ∨ (e = .returned (.bool false) ∧ Jx (pre ++ [x]) W'))
    (W : World) (hW : Kept w W S) (hJ0 : J [] W) :
    CallsIn Fence.wide n Try.prog 50 #[.func (.yield lo) #[] #[], .pointer (some ⟨gb, 0, none⟩)] W fun e W' => (∃ v, e = .returned v) ∧
      ((∃ zs, zs = pairs L ∧ J zs W') ∨ (∃ pre, (∃ k, k ≤ L.length ∧ pre = (pairs L).take k) ∧ Jx pre W')) := by
  have HY := Aside0.mk hY
  have BX := Aside0.mk (show ∀ W', Kept w W' S → W'.cell? ⟨gb, 0, none⟩ = some (.slice (some ⟨g, 0, none⟩) L.length L.length) from fun W' hk => (show Boxed W' gb 40 _ from (hk.2 gb hb.lt hbS).trans hb).cell)
  have RX := Aside0.mk (show ∀ W', Kept w W' S → ∀ k (h : k < L.length), W'.cell? ⟨g, k, none⟩ = some (.int .u64 L[k]) from fun W' hk k h => by
    have h1 := (hk.2 g (blk_lt hg) hgS).trans hg
    rw [blk_cell h1 k]
    simp [encs, h])
  have b1 := BX.out W hW
  have HW := Aside0.mk hW
  have HJ0 := Aside0.mk hJ0
  clear hY hb hbS hg hgS hW hJ0
  refine callsIn_of_wp Try.func50 rfl trivial ?_ rfl
  simp only [Try.ntmps50, List.size_toArray, List.length_cons, List.length_nil, Nat.reduceAdd, Nat.reduceSub, Array.replicate_succ, Array.replicate_zero, List.push_toArray, List.append_toArray, List.nil_append, List.cons_append]
  gi_wp2_with fail
  clear b1
  gi_loopw [7] (fun v wr => ∃ k : Nat, v = .int .i64 k ∧ k ≤ L.length ∧ Aside0 (Kept w wr S) ∧ Aside0 (J ((pairs L).take k) wr)) (fun v _ => L.length - (intOf v).toNat)
  case atStart => exact ⟨0, rfl, Nat.zero_le _, HW, ⟨by rw [List.take_zero]; exact HJ0.out⟩⟩
  case round =>
    obtain ⟨k, rfl, hk, HK, HJ⟩ := hrel
    by_cases hlt : k < L.length
    · have hgd : decide (k < L.length) = true := decide_eq_true hlt
      have hc := RX.out wr HK.out k hlt
      obtain ⟨x, hx⟩ : ∃ x, x = L[k] := ⟨_, rfl⟩
      rw [← hx] at hc
      obtain ⟨fn, tmps, assign, body, hy, hR⟩ := HY.out _ ((k : Int), x) wr HJ.out (by rw [List.length_take, pairs_length]; omega)
      dsimp only [pencs] at hy
      have HR := Aside0.mk hR
      have HX := Aside0.mk hx
      have hlo : (k : Int) ≤ 1000 := by omega
      clear hR hx hk
      gi_wp2_with fail
      refine HR.out.mono ?_
      rintro e W3 (⟨rfl, hJ3, hK3⟩ | ⟨rfl, hJx3⟩)
      · have HJ3 := Aside0.mk hJ3
        have HK3 := Aside0.mk (HK.out.then_ hK3 (fun _ h => .inl h))
        clear hJ3 hK3 hy HR hc
        gi_wp2_with fail
        go_roundw
        case rel => exact ⟨k + 1, by go_num, by omega, HK3, ⟨by rw [pairs_take L k hlt, ← HX.out]; exact HJ3.out⟩⟩
        case measure => simp [intOf]; omega
      · have HJX := Aside0.mk hJx3
        clear hy HR hc hJx3
        gi_wp2_with fail
        refine bodyPost_ret (results_none rfl _ _ _) rfl ?_
        exact ⟨⟨_, rfl⟩, .inr ⟨_, ⟨k + 1, by omega, rfl⟩, by rw [pairs_take L k hlt, ← HX.out]; exact HJX.out⟩⟩
    · obtain rfl : k = L.length := by omega
      have HJ' := Aside0.mk (show J (pairs L) wr by have h := HJ.out; rwa [List.take_of_length_le (by rw [pairs_length]; exact Nat.le_refl _)] at h)
      clear HJ hlt hk
      gi_wp2_with fail
      go_end0
      exact ⟨⟨_, rfl⟩, .inl (by first | exact HJ'.out | exact ⟨_, rfl, HJ'.out⟩)⟩
theorem go_stops (n : Nat) (hn : 1 ≤ n) (L : List Int) (gb g : Nat) (S : Nat → Prop) (w : World) (hlen : L.length ≤ 1000)
    (hb : Boxed w gb 40 (.slice (some ⟨g, 0, none⟩) L.length L.length)) (hbS : ¬ S gb) (hg : w.heap[g]? = some (.cells (encs (Value.int .u64) L).toArray 36 (0, 0))) (hgS : ¬ S g) :
    SeqStopsK Fence.wide n Try.prog 50 #[.pointer (some ⟨gb, 0, none⟩)] pencs (fun X Y => Kept X Y S) (fun zs => zs = pairs L) (fun pre => ∃ k, k ≤ L.length ∧ pre = (pairs L).take k) L.length w := fun lo J Jx W hW hJ _ hY hJ0 => by
  exact go1 n hn lo L gb g S J Jx w hlen hb hbS hg hgS (fun pre x W1 h1 h2 => hY pre x W1 h1 h2) W (Kept.of_below hW S) hJ0
end Go.Proofs.Ytckdnkiacnonkaa.Pure
