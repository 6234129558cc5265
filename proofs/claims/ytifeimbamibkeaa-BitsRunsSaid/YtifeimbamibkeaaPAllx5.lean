-- Written for this claim by a program of this session's own: each Go function that the law uses, as a plain Lean function, with the proof that the machine's call comes to it.
import Derived.Test.YtifeimbamibkeaaPAllx0
import Derived.Test.YtifeimbamibkeaaPAllx3
import Derived.Test.YtifeimbamibkeaaPAllx4
import Derived.RangeFuncBox
import Derived.RangeFuncFrom
import Derived.RangeFuncMany
import Derived.RangeFuncLeaves
import Derived.Shelf.Abstract
import Derived.OwnWalkIn
import Derived.TacticsInMore
import Derived.LoopNIn
import Derived.LoopIn
import Derived.BigFrameIn
namespace Go.Proofs.Ytifeimbamibkeaa.PAll
open Go.RowKit Go.Proofs.YtifeimbamibkeaaW.PrintWords Go.Proofs.YtifeimbamibkeaaW.PrintLast Go.Proofs.YtifeimbamibkeaaW.PrintMore
attribute [local go_sem] max2_int min2_int max_two min_two max_three min_three max_four min_four   -- for this text's walks alone
set_option linter.unusedVariables false
set_option linter.unusedSimpArgs false

attribute [local go_sem] setCell_drewN_
/-! ### bits_Count: function 24 -/
-- BY HAND
/-- The runs of ones from a bit on, as the program goes through them. -/
def bits_Count.go (kk : Nat) (l : List Int) (m : Int) : Nat → Int → Option (List (Int × Int))
  | 0, _ => none
  | q + 1, at_ => if at_ < m then (bits_Next.f kk l m at_ false).bind fun e => (bits_Next.f kk l m e true).bind fun a2 => (bits_Count.go kk l m q a2).map fun ys => (at_, wrap64 (e - at_)) :: ys else some []
abbrev bits_Count.encs (p : Int × Int) : Array Value := #[.int .i64 p.1, .int .i64 p.2]
/-- How many rounds are to come. -/
noncomputable def bits_Count.steps (kk : Nat) (l : List Int) (m : Int) (at_ : Int) : Nat := leastOf (fun q => ∃ zs, bits_Count.go kk l m q at_ = some zs)
theorem bits_Count.steps_lt {kk : Nat} {l : List Int} {m at_ e a2 : Int} {q : Nat} {zs : List (Int × Int)} (hlt : at_ < m) (he : bits_Next.f kk l m at_ false = some e) (ha : bits_Next.f kk l m e true = some a2) (h : bits_Count.go kk l m q at_ = some zs) : bits_Count.steps kk l m a2 < bits_Count.steps kk l m at_ := by
  have hs := (leastOf_spec (p := fun q => ∃ zs, bits_Count.go kk l m q at_ = some zs) ⟨q, zs, h⟩).1
  change ∃ zs, bits_Count.go kk l m (bits_Count.steps kk l m at_) at_ = some zs at hs
  generalize bits_Count.steps kk l m at_ = n at hs
  obtain ⟨zs, hs⟩ := hs
  cases n with
  | zero => cases hs
  | succ n =>
    rw [bits_Count.go, if_pos hlt, he, Option.bind_some, ha, Option.bind_some] at hs
    obtain ⟨ys, hy, _⟩ := Option.map_eq_some_iff.1 hs
    exact Nat.lt_succ_of_le ((leastOf_spec (p := fun q => ∃ zs, bits_Count.go kk l m q a2 = some zs) ⟨n, ys, hy⟩).2 n ⟨ys, hy⟩)
theorem bits_Count.go_step {kk : Nat} {l : List Int} {m at_ : Int} {q : Nat} {zs : List (Int × Int)} (hlt : at_ < m) (h : bits_Count.go kk l m q at_ = some zs) : ∃ q' e a2 ys, bits_Next.f kk l m at_ false = some e ∧ bits_Next.f kk l m e true = some a2 ∧ bits_Count.go kk l m q' a2 = some ys ∧ zs = (at_, wrap64 (e - at_)) :: ys := by
  cases q with
  | zero => cases h
  | succ q =>
    rw [bits_Count.go, if_pos hlt] at h
    obtain ⟨e, he, h⟩ := Option.bind_eq_some_iff.1 h
    obtain ⟨a2, ha, h⟩ := Option.bind_eq_some_iff.1 h
    obtain ⟨ys, hy, h⟩ := Option.map_eq_some_iff.1 h
    exact ⟨q, e, a2, ys, he, ha, hy, h.symm⟩
theorem bits_Count.go_end {kk : Nat} {l : List Int} {m at_ : Int} {q : Nat} {zs : List (Int × Int)} (hlt : ¬ at_ < m) (h : bits_Count.go kk l m q at_ = some zs) : zs = [] := by
  cases q with
  | zero => cases h
  | succ q =>
    rw [bits_Count.go, if_neg hlt] at h
    exact (Option.some.inj h).symm
theorem bits_Count.drop_cons {ys zs : List (Int × Int)} {x : Int × Int} {j : Nat} (h : ys.drop j = x :: zs) : j < ys.length ∧ ys.drop (j + 1) = zs ∧ ys.take (j + 1) = ys.take j ++ [x] := by
  have hj : j < ys.length := by
    rcases Nat.lt_or_ge j ys.length with h1 | h1
    · exact h1
    · rw [List.drop_eq_nil_of_le h1] at h
      cases h
  rw [List.drop_eq_getElem_cons hj] at h
  injection h with h1 h2
  exact ⟨hj, h2, by rw [List.take_succ_eq_append_getElem hj, h1]⟩
set_option maxRecDepth 100000 in
set_option maxHeartbeats 4000000 in
theorem bits_Count.runs1 (n : Nat) (hn : 1 ≤ n) (lo : Nat) (kk : Nat) (l : List Int) (m : Int) (gr gm : Nat) (A : Option Addr) (c : Nat) (S : Nat → Prop) (ys : List (Int × Int)) (J Jx : List (Int × Int) → World → Prop) (w : World)
    (hr : Boxed w gr 22 (.slice A l.length c)) (hrS : ¬ S gr) (hm : Boxed w gm 3 (.int .i64 m)) (hmS : ¬ S gm) (hC : ∀ W', Kept w W' S → Kd.C (Kd.int .u8) W' A l.length l) (hc : l.length ≤ c)
    (a0 : Int) (q0 : Nat) (h0 : bits_Next.f kk l m 0 true = some a0) (hgo : bits_Count.go kk l m q0 a0 = some ys)
    (hY : ∀ pre x W, J pre W → pre.length < ys.length → YieldAt Fence.wide (n - 1) Try.prog lo (bits_Count.encs x) W fun e W' =>
      (e = .returned (.bool true) ∧ J (pre ++ [x]) W' ∧ Kept W W' S) ∨ (e = .returned (.bool false) ∧ Jx (pre ++ [x]) W'))
    (hD : ∀ pre W W', J pre W → Below W.heap.size W W' → J pre W')
    (W : World) (hW : Kept w W S) (hJ0 : J [] W) :
    CallsIn Fence.wide n Try.prog 42 #[.func (.yield lo) #[] #[], .pointer (some ⟨gr, 0, none⟩), .pointer (some ⟨gm, 0, none⟩)] W fun e W' => (∃ v, e = .returned v) ∧
      ((∃ zs, zs = ys ∧ J zs W') ∨ (∃ pre, (∃ k, k ≤ ys.length ∧ pre = ys.take k) ∧ Jx pre W')) := by
  have HGO := Aside0.mk hgo
  have HN := Aside0.mk h0
  have HC := Aside0.mk hC
  have HY := Aside0.mk hY
  have HD := Aside0.mk hD
  clear hgo h0 hC hY hD
  have bx : ∀ W', Kept w W' S → W'.cell? ⟨gr, 0, none⟩ = some (.slice A l.length c) ∧ W'.cell? ⟨gm, 0, none⟩ = some (.int .i64 m) := fun W' hk =>
    ⟨((show Boxed W' gr 22 (.slice A l.length c) from (hk.2 gr hr.lt hrS).trans hr)).cell, ((show Boxed W' gm 3 (.int .i64 m) from (hk.2 gm hm.lt hmS).trans hm)).cell⟩
  have BX := Aside0.mk bx
  obtain ⟨b1, b2⟩ := bx W hW
  have HW := Aside0.mk hW
  clear bx hW hr hrS hm hmS
  refine callsIn_of_wp Try.func42 rfl trivial ?_ rfl
  simp only [Try.ntmps42, List.size_toArray, List.length_cons, List.length_nil, Nat.reduceAdd, Nat.reduceSub, Array.replicate_succ, Array.replicate_zero, List.push_toArray, List.append_toArray, List.nil_append, List.cons_append]
  gi_wp2_with fail
  refine ⟨trivial, ((callsIn_wide (n := n - 1)).2 (bits_Next.calls kk A c l m 0 true a0 W (HC.out W HW.out) hc HN.out)).mono ?_⟩
  rintro e w1 ⟨rfl, hb⟩
  have HW1 := Aside0.mk (Kept.below HW.out hb)
  have HJ1 := Aside0.mk (HD.out _ _ _ hJ0 hb)
  have HB1 := Aside0.mk hb
  clear b1 b2 hJ0
  obtain ⟨d1, d2⟩ := BX.out w1 HW1.out
  clear hb
  gi_wp2_with fail
  gi_loopw [4] (fun v wr => ∃ (j q : Nat) (at_ : Int), v = .int .i64 at_ ∧ j ≤ ys.length ∧ Aside0 (bits_Count.go kk l m q at_ = some (ys.drop j)) ∧ Aside0 (Kept w wr S) ∧ Aside0 (J (ys.take j) wr))
    (fun v _ => bits_Count.steps kk l m (intOf v))
  case atStart => exact ⟨0, q0, a0, rfl, Nat.zero_le _, ⟨by rw [List.drop_zero]; exact HGO.out⟩, HW1, ⟨by rw [List.take_zero]; exact HJ1.out⟩⟩
  case round =>
    clear d1 d2
    obtain ⟨j, q, at_, rfl, hj, HG, HK, HJ⟩ := hrel
    obtain ⟨d1, d2⟩ := BX.out wr HK.out
    by_cases hlt : at_ < m
    · obtain ⟨q', e, a2, zs, he, ha2, hz, hcons⟩ := bits_Count.go_step hlt HG.out
      obtain ⟨hjl, hdz, htk⟩ := bits_Count.drop_cons hcons
      have hst := bits_Count.steps_lt hlt he ha2 HG.out
      have HE := Aside0.mk he
      have HA := Aside0.mk ha2
      have HZ := Aside0.mk hz
      have HDZ := Aside0.mk hdz
      have HT := Aside0.mk htk
      have HS := Aside0.mk hst
      clear he ha2 hz hcons hdz htk hst hj
      gi_wp2_with fail
      refine ⟨trivial, ((callsIn_wide (n := n - 1)).2 (bits_Next.calls kk A c l m at_ false e wr (HC.out wr HK.out) hc HE.out)).mono ?_⟩
      rintro e' w5 ⟨rfl, hb⟩
      have HK5 := Aside0.mk (Kept.below HK.out hb)
      have HJ5 := Aside0.mk (HD.out _ _ _ HJ.out hb)
      clear hb d1 d2
      obtain ⟨d1, d2⟩ := BX.out w5 HK5.out
      obtain ⟨fn, tmps, assign, body, hy, hR⟩ := HY.out _ (at_, wrap64 (e - at_)) w5 HJ5.out (by rw [List.length_take]; omega)
      dsimp only [bits_Count.encs] at hy
      have HR := Aside0.mk hR
      clear hR
      gi_wp2_with fail
      refine HR.out.mono ?_
      rintro e' W3 (⟨rfl, hJ3, hK3⟩ | ⟨rfl, hJx3⟩)
      · have HJ3 := Aside0.mk hJ3
        have HK3 := Aside0.mk (HK5.out.then_ hK3 (fun _ h => .inl h))
        clear hJ3 hK3 d1 d2 hy HR
        obtain ⟨d1, d2⟩ := BX.out W3 HK3.out
        gi_wp2_with fail
        refine ⟨trivial, ((callsIn_wide (n := n - 1)).2 (bits_Next.calls kk A c l m e true a2 W3 (HC.out W3 HK3.out) hc HA.out)).mono ?_⟩
        rintro e' w7 ⟨rfl, hb⟩
        have HK7 := Aside0.mk (Kept.below HK3.out hb)
        have HJ7 := Aside0.mk (HD.out _ _ _ HJ3.out hb)
        clear hb d1 d2
        gi_wp2_with fail
        go_roundw
        case rel => exact ⟨j + 1, q', a2, rfl, hjl, ⟨by rw [HZ.out, HDZ.out]⟩, HK7, ⟨by rw [HT.out]; exact HJ7.out⟩⟩
        case measure => simp only [intOf]; exact HS.out
      · clear hy HR
        gi_wp2_with fail
        refine bodyPost_ret (results_none rfl _ _ _) rfl ?_
        exact ⟨⟨_, rfl⟩, .inr ⟨_, ⟨j + 1, hjl, HT.out.symm⟩, hJx3⟩⟩
    · have hz := bits_Count.go_end hlt HG.out
      have hjl : j = ys.length := by
        rcases Nat.lt_or_ge j ys.length with h | h
        · rw [List.drop_eq_getElem_cons h] at hz
          cases hz
        · omega
      subst hjl
      have HJ' := Aside0.mk (show J ys wr by have h := HJ.out; rwa [List.take_length] at h)
      clear hz
      gi_wp2_with fail
      go_end0
      exact ⟨⟨_, rfl⟩, .inl (by first | exact HJ'.out | exact ⟨_, rfl, HJ'.out⟩)⟩
theorem bits_Count.stops (n : Nat) (hn : 1 ≤ n) (kk : Nat) (l : List Int) (m : Int) (gr gm : Nat) (A : Option Addr) (c : Nat) (S : Nat → Prop) (ys : List (Int × Int)) (w : World)
    (hr : Boxed w gr 22 (.slice A l.length c)) (hrS : ¬ S gr) (hm : Boxed w gm 3 (.int .i64 m)) (hmS : ¬ S gm) (hC : ∀ W', Kept w W' S → Kd.C (Kd.int .u8) W' A l.length l) (hc : l.length ≤ c)
    (a0 : Int) (q0 : Nat) (h0 : bits_Next.f kk l m 0 true = some a0) (hgo : bits_Count.go kk l m q0 a0 = some ys) :
    SeqStopsK Fence.wide n Try.prog 42 #[.pointer (some ⟨gr, 0, none⟩), .pointer (some ⟨gm, 0, none⟩)] bits_Count.encs (fun X Y => Kept X Y S) (fun zs => zs = ys) (fun pre => ∃ k, k ≤ ys.length ∧ pre = ys.take k) ys.length w := fun lo J Jx W hW hJ _ hY hJ0 => by
  have := bits_Count.runs1 n hn lo kk l m gr gm A c S ys J Jx w hr hrS hm hmS hC hc a0 q0 h0 hgo (fun pre x W1 h1 h2 => hY pre x W1 h1 h2)
    (fun pre W1 W2 h1 hb => hJ pre W1 W2 none h1 ⟨hb.os, hb.tape, hb.output, hb.size, fun k hk _ => hb.block k hk⟩ (fun r e => by cases e)) W (Kept.of_below hW S) hJ0
  exact this
theorem bits_Count.mul8 (n : Nat) (h : n < 140737488355328) : IntKind.i64.wrap (8 * (n : Int)) = 8 * (n : Int) := by rw [i64_w]; unfold wrap64; omega
/-- What Runs hands back: a closure over a row of its own and a number. -/
def bits_Count.RunsPost (w : World) (l : List Int) (m : Int) (e : Ending) (w' : World) : Prop := ∃ (gr gm : Nat) (A : Option Addr) (c : Nat), e = .returned (.func (.func 42) #[] #[.pointer (some ⟨gr, 0, none⟩), .pointer (some ⟨gm, 0, none⟩)]) ∧
      w.heap.size ≤ gr ∧ w.heap.size ≤ gm ∧ Boxed w' gr 22 (.slice A l.length c) ∧ Boxed w' gm 3 (.int .i64 m) ∧ l.length ≤ c ∧
      (∀ S : Nat → Prop, (∀ k, S k → k < w.heap.size ∨ w'.heap.size ≤ k) → ∀ W', Kept w' W' S → Kd.C (Kd.int .u8) W' A l.length l) ∧ Below w.heap.size w w' 
theorem bits_Count.runs_post (w w1 : World) (l : List Int) (m : Int) (A : Option Addr) (c : Nat) (HO : Kd.R (Kd.int .u8) 5 w1 w.heap.size (fun _ => True) (.slice A l.length c) l) (HB : Below w.heap.size w w1) :
    bits_Count.RunsPost w l m (.returned (.func (.func 42) #[] #[.pointer (some ⟨w1.heap.size, 0, none⟩), .pointer (some ⟨w1.heap.size + 1, 0, none⟩)])) ((w1.alloc (.cells #[.slice A l.length c] 22)).alloc (.cells #[.int .i64 m] 3)) := by
  have hb2 := below_alloc (below_alloc HB (.cells #[.slice A l.length c] 22)) (.cells #[.int .i64 m] 3)
  have ho2 := Kd.R_bound (Kd.R_alloc (Kd.R_alloc HO (.cells #[.slice A l.length c] 22)) (.cells #[.int .i64 m] 3))
  have b1 := (Boxed.new w1 22 (.slice A l.length c)).alloc (.cells #[.int .i64 m] 3)
  have b2 := Boxed.new (w1.alloc (.cells #[.slice A l.length c] 22)) 3 (.int .i64 m)
  rw [World.size_alloc] at b2
  refine ⟨w1.heap.size, w1.heap.size + 1, A, c, rfl, HB.size, Nat.le_succ_of_le HB.size, b1, b2, (Kd.R_reads' HO).2.1, fun S hS => Kd.C_kept_own ho2 (fun k hk hs => ?_), hb2⟩
  have h1 := hk.2.1
  have h2 := hk.2.2.1
  rcases hS k hs with h | h <;> omega
set_option maxHeartbeats 2000000 in
theorem bits_Count.runs (A0 : Option Addr) (c0 : Nat) (l : List Int) (n : Int) (w : World) (hr0 : Kd.C (Kd.int .u8) w A0 l.length l) (hc0 : l.length ≤ c0) (hlen : l.length < 140737488355328) :
    Calls Try.prog 31 #[.slice A0 l.length c0, .int .i64 n] w (bits_Count.RunsPost w l (mn n (8 * (l.length : Int)))) := by
  have HB := Aside0.mk (Below.refl w.heap.size w)
  have hcl : bytes_Clone.f l = some l := by unfold bytes_Clone.f; rw [if_pos hlen]
  have HCL := Aside0.mk hcl
  have HR := Aside0.mk hr0
  have HC := Aside0.mk hc0
  have h8 := bits_Count.mul8 l.length hlen
  clear hr0 hc0 hcl hlen
  go_enter Try.func31, Try.ntmps31
  go_wp2_with fail
  refine (bytes_Clone.calls A0 c0 l l w HR.out HC.out HCL.out).mono ?_
  rintro e w1 ⟨v, rfl, ho, hb⟩
  obtain ⟨A, c, ev⟩ := Kd.R_slice ho
  subst ev
  have HO := Aside0.mk ho
  have HB1 := Aside0.mk hb
  have hz := hb.size
  clear ho hb
  rcases (show 8 * (l.length : Int) < n ∨ n ≤ 8 * (l.length : Int) by omega) with hq | hq
  · have hmn : mn n (8 * (l.length : Int)) = 8 * (l.length : Int) := by unfold mn; rw [if_pos hq]
    have hq2 : ¬ n ≤ 8 * (l.length : Int) := by omega
    have HP : Aside0 (bits_Count.RunsPost w l (mn n (8 * (l.length : Int))) (.returned (.func (.func 42) #[] #[.pointer (some ⟨w1.heap.size, 0, none⟩), .pointer (some ⟨w1.heap.size + 1, 0, none⟩)])) ((w1.alloc (.cells #[.slice A l.length c] 22)).alloc (.cells #[.int .i64 (8 * (l.length : Int))] 3))) := ⟨by rw [hmn]; exact bits_Count.runs_post w w1 l _ A c HO.out HB1.out⟩
    clear hmn
    go_wp2_with fail
    go_ret
    exact HP.out
  · have hmn : mn n (8 * (l.length : Int)) = n := by unfold mn; rw [if_neg (by omega)]
    have hq2 : ¬ 8 * (l.length : Int) < n := by omega
    have HP : Aside0 (bits_Count.RunsPost w l (mn n (8 * (l.length : Int))) (.returned (.func (.func 42) #[] #[.pointer (some ⟨w1.heap.size, 0, none⟩), .pointer (some ⟨w1.heap.size + 1, 0, none⟩)])) ((w1.alloc (.cells #[.slice A l.length c] 22)).alloc (.cells #[.int .i64 n] 3))) := ⟨by rw [hmn]; exact bits_Count.runs_post w w1 l _ A c HO.out HB1.out⟩
    clear hmn
    go_wp2_with fail
    go_ret
    exact HP.out
def bits_Count.cnt (ys : List (Int × Int)) : Int := ys.foldl (fun a p => wrap64 (a + p.2)) 0
theorem bits_Count.cnt_snoc (ys : List (Int × Int)) (x : Int × Int) : bits_Count.cnt (ys ++ [x]) = wrap64 (bits_Count.cnt ys + x.2) := by simp [bits_Count.cnt, List.foldl_append]
def bits_Count.f (k : Nat) (l0 : List Int) : Option Int := if l0.length < 140737488355328 then (bits_Next.f k l0 (mn (8 * (l0.length : Int)) (8 * (l0.length : Int))) 0 true).bind fun a0 => (bits_Count.go k l0 (mn (8 * (l0.length : Int)) (8 * (l0.length : Int))) k a0).map bits_Count.cnt else none
theorem bits_Count.go_mono (l : List Int) (m : Int) : ∀ (q kk : Nat) (at_ : Int) (zs : List (Int × Int)), bits_Count.go kk l m q at_ = some zs → bits_Count.go (kk + 1) l m (q + 1) at_ = some zs
  | 0, _, _, _, h => by cases h
  | q + 1, kk, at_, zs, h => by
    by_cases hlt : at_ < m
    · rw [bits_Count.go, if_pos hlt] at h
      obtain ⟨e, he, h⟩ := Option.bind_eq_some_iff.1 h
      obtain ⟨a2, ha, h⟩ := Option.bind_eq_some_iff.1 h
      obtain ⟨ys, hy, h⟩ := Option.map_eq_some_iff.1 h
      rw [bits_Count.go, if_pos hlt, bits_Next.mono _ _ _ _ _ _ he, Option.bind_some, bits_Next.mono _ _ _ _ _ _ ha, Option.bind_some, bits_Count.go_mono l m q kk a2 ys hy, Option.map_some, h]
    · rw [bits_Count.go, if_neg hlt] at h ⊢
      exact h
theorem bits_Count.mono : ∀ a0 k, LeO (bits_Count.f k a0) (bits_Count.f (k + 1) a0) := by
  intro l k r h
  unfold bits_Count.f at h ⊢
  by_cases hl : l.length < 140737488355328
  · rw [if_pos hl] at h ⊢
    obtain ⟨a0, ha, h⟩ := Option.bind_eq_some_iff.1 h
    obtain ⟨ys, hy, h⟩ := Option.map_eq_some_iff.1 h
    rw [bits_Next.mono _ _ _ _ _ _ ha, Option.bind_some, bits_Count.go_mono l _ k k a0 ys hy, Option.map_some, h]
  · rw [if_neg hl] at h
    cases h
theorem bits_Count.keeps_drewN (W : World) (n : Nat) : KeepsOthers W (W.drewN n) := ⟨Nat.le_refl _, fun _ _ h _ => h⟩
theorem bits_Count.boxed_own {A B : World} {row : Option Nat} {g t : Nat} {v : Value} {N : Nat} (h : Boxed A g t v) (hg : A.grownBy B row) (hr : ∀ r, row = some r → N ≤ r ∧ ∃ o : Obj, A.heap[r]? = some o ∧ o.isCells = false) : Boxed B g t v := by
  refine h.kept hg (fun e => ?_)
  obtain ⟨_, o, ho, hc⟩ := hr g e.symm
  rw [show A.heap[g]? = _ from h] at ho
  cases ho
  cases hc
theorem bits_Count.below_own {w A B : World} {row : Option Nat} {N : Nat} (h : Below w.heap.size w A) (hg : A.grownBy B row) (hr : ∀ r, row = some r → N ≤ r ∧ ∃ o : Obj, A.heap[r]? = some o ∧ o.isCells = false) (hN : w.heap.size ≤ N) : Below w.heap.size w B := by
  refine h.trans (Below.grown (Below.refl _ _) hg h.size (fun j e => ?_))
  have := (hr j e).1
  omega
theorem bits_Count.boxed_below {W W' : World} {B : Nat} {t : TypeId} {v : Value} (h : Boxed W B t v) (hb : Below W.heap.size W W') : Boxed W' B t v := (hb.block B h.lt).trans h
set_option maxRecDepth 100000 in
set_option maxHeartbeats 4000000 in
theorem bits_Count.calls (k : Nat) (A0 : Option Addr) (c0 : Nat) (l0 : List Int) (r : Int) (w : World) (hr0 : Kd.C (Kd.int .u8) w A0 l0.length l0) (hc0 : l0.length ≤ c0) (h : bits_Count.f k l0 = some r) :
    Calls Try.prog 24 #[.slice A0 l0.length c0] w fun e w' => e = .returned (.int .i64 r) ∧ Below w.heap.size w w' := by
  unfold bits_Count.f at h
  have hlen : l0.length < 140737488355328 := by
    rcases Nat.lt_or_ge l0.length 140737488355328 with h1 | h1
    · exact h1
    · rw [if_neg (by omega)] at h
      cases h
  rw [if_pos hlen] at h
  obtain ⟨a0, ha, h⟩ := Option.bind_eq_some_iff.1 h
  obtain ⟨ys, hy, rfl⟩ := Option.map_eq_some_iff.1 h
  have HA := Aside0.mk ha
  have HY := Aside0.mk hy
  have HR := Aside0.mk hr0
  have HC := Aside0.mk hc0
  have HL := Aside0.mk hlen
  have h8 := bits_Count.mul8 l0.length hlen
  clear h ha hy hr0 hc0 hlen
  refine (callsIn_wide (n := 4)).1 ?_
  refine callsIn_of_wp_marks Try.func24 rfl trivial ?_ rfl
  simp only [Try.ntmps24, List.size_toArray, List.length_cons, List.length_nil, Nat.reduceAdd, Nat.reduceSub, Array.replicate_succ, Array.replicate_zero, List.push_toArray, List.append_toArray, List.nil_append, List.cons_append]
  gi_wp2_with fail
  have HRa := Aside0.mk (Kd.C_alloc HR.out (.cells #[.int .i64 0] 3))
  refine ⟨trivial, ((callsIn_wide (n := 3)).2 (bits_Count.runs A0 c0 l0 (8 * (l0.length : Int)) _ HRa.out HC.out HL.out)).mono ?_⟩
  rintro e w3 ⟨gr, gm, A, c, rfl, hgr, hgm, br, bm, hlc, hCC, hb⟩
  have BN := Aside0.mk (bits_Count.boxed_below (Boxed.new w 3 (.int .i64 0)) hb)
  have KB := Aside0.mk ((below_alloc (Below.refl _ w) (.cells #[.int .i64 0] 3)).trans (hb.mono (by simp)))
  have hz0 := hb.size
  rw [World.size_alloc] at hgr hgm hz0
  obtain ⟨g0, hg0⟩ : ∃ g, g = w.heap.size := ⟨_, rfl⟩
  simp only [← hg0] at BN hgr hgm hz0 ⊢
  have GZ := Aside0.mk (show w.heap.size ≤ g0 ∧ g0 < gr ∧ g0 < gm ∧ g0 < w3.heap.size by omega)
  have hlt1 := br.lt
  have hlt2 := bm.lt
  have HST := Aside0.mk (bits_Count.stops 3 (by omega) k l0 _ gr gm A c (fun q => q = g0 ∨ w3.heap.size ≤ q) ys w3 br (by omega) bm (by omega) (hCC _ (fun q hq => by rw [World.size_alloc]; omega)) hlc a0 k HA.out HY.out)
  clear hgr hgm hz0 hg0 br bm hlc hCC hb hlt1 hlt2 HRa h8
  gi_wp2_with fail
  refine wpIn_rangeFunc_ownF rfl (by omega) (gf := 42) (lb := #[.pointer (some ⟨gr, 0, none⟩), .pointer (some ⟨gm, 0, none⟩)]) rfl trivial (enters_of Try.func42 (by kernel_rfl) rfl) HST.out
    (fun h k => h.then_ k (fun _ h => .inl h)) (fun W l o o' hl ho _ _ => Kept.of_grown (grownBy_putObj' W l o') (Kept.refl W _) (fun q e => by cases e; exact .inl (.inr hl))) (Below.refl _ _) (fun _ => rfl)
    (fun pre W => Boxed W g0 3 (.int .i64 (bits_Count.cnt pre)) ∧ Below w.heap.size w W) (fun _ _ _ => False) ?own ?ownx ?start
    (fun x => { tmps := #[.slice A0 l0.length c0, undef, .int .i64 0, .pointer (some ⟨g0, 0, none⟩), undef, .int .i64 x.2, .slice A0 l0.length c0, .slice A0 l0.length c0, .int .i64 l0.length, .int .i64 (8 * (l0.length : Int)), .func (.func 42) #[] #[.pointer (some ⟨gr, 0, none⟩), .pointer (some ⟨gm, 0, none⟩)], .int .i64 x.1, .int .i64 x.2, undef, undef, undef, undef], defers := [] }) ?assign ?body ?done ?stop
  case own => exact fun s X Y row hs hg hr => ⟨bits_Count.boxed_own hs.1 hg hr, bits_Count.below_own hs.2 hg hr KB.out.size⟩
  case ownx => exact fun c s X Y row hs hg hr => hs
  case start => exact ⟨BN.out, KB.out⟩
  case assign =>
    intro l x W K hK
    gi_wp2_with ((rw [Oper.semAt_eq _ _ _ (fun c h => by cases h)]; go_simp; try go_bits))
    exact hK
  case body =>
    rintro l pre x W ⟨b0, kb⟩ hlen
    have hc := b0.cell
    have hf := b0.frozen
    gi_wp2_with ((rw [Oper.semAt_eq _ _ _ (fun c h => by cases h)]; go_simp; try go_bits))
    have s0 := b0.set (.int .i64 (wrap64 (bits_Count.cnt pre + x.2)))
    refine ⟨KeepsOthers.setCell _ _ _, Kept.setCell (p := ⟨g0, 0, none⟩) (Kept.refl W _) (.inl (.inl rfl)) _, by rw [bits_Count.cnt_snoc]; exact s0, kb.setCell (p := ⟨g0, 0, none⟩) GZ.out.1 _⟩
  case done =>
    rintro D xs W hD rfl ⟨b0, kb⟩ hK
    have hc := b0.cell
    gi_wp2_with fail
    refine ⟨by simp, .inl ⟨_, _, rfl, run_takeDeferred hK, ?_⟩⟩
    have kb2 := bits_Count.below_own kb (grownBy_putObj' _ D (.deferred none)) (fun r e => by cases e; exact ⟨Nat.le_refl _, _, hK, rfl⟩) (Nat.le_trans KB.out.size hD)
    refine ⟨.int .i64 (bits_Count.cnt xs), ?_, rfl, kb2⟩
    simp [results, Try.f24, go_sem]
  case stop => exact fun D c' pre W hD hp hix hK => hix.elim


end Go.Proofs.Ytifeimbamibkeaa.PAll
