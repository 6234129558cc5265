/- Texts of this claim, joined: Rng, DkG, DkH, DkQ, DkT, DkP, DkSt, DkU, DkSec. -/
import Derived.Test.YthnadkdfgckijaaMA
import Derived.Test.YthnadkdfgckijaaWKept
import Derived.RangeFuncFrom
import Derived.Test.YthnadkdfgckijaaPAllx4
import Derived.OwnWalkIn
import Derived.Maps.AppendAt
namespace Go.Proofs.Ythnadkdfgckijaa.Pure
open Go.RowKit Go.Proofs.Ythnadkdfgckijaa.Mem Go.Proofs.YthnadkdfgckijaaW.PrintWords Go.Proofs.YthnadkdfgckijaaW.PrintLast Go.Proofs.YthnadkdfgckijaaW.PrintMore
set_option linter.unusedVariables false
set_option linter.unusedSimpArgs false

/-- What an iterator does that makes its values as it goes: V k v W0 W1 says what the values v of round k are, where W0 is the world ahead of the round and W1 the one at the yield. -/
def SeqV (n : Nat) (P : Program) (gf : Nat) (lb : Array Value) (V : Nat → Array Value → World → World → Prop) (S : Nat → Prop) (N : Nat) (w : World) : Prop :=
  ∀ (lo : Nat) (J Jx : Nat → World → Prop) (W : World), Kept w W S →
    (∀ (k : Nat) (v : Array Value) (W0 W1 : World), k < N → J k W0 → V k v W0 W1 → YieldAt Fence.wide (n - 1) P lo v W1 fun e W' => ∃ b, e = .returned (.bool b) ∧ ((b = true ∧ J (k + 1) W' ∧ Kept W0 W' S) ∨ (b = false ∧ Jx (k + 1) W'))) →
    J 0 W → CallsIn Fence.wide n P gf (#[.func (.yield lo) #[] #[]] ++ lb) W fun e W' => (∃ v, e = .returned v) ∧ (J N W' ∨ ∃ k, k ≤ N ∧ Jx k W')

section
variable {P : Program} {fn : FuncId} {tmps : Array Value} {ps : Array Tmp} {assign body : Code} {D : Nat}
/-- A loop's record. -/
def recV (fn : FuncId) (tmps : Array Value) (ps : Array Tmp) (assign body : Code) (D : Nat) (st : LoopState) (pe : Option Code) : Loop := { state := st, pending := pe, fn, tmps, params := ps, assign, body, defers := D }
/-- The loop stands ready; it was left with a jump. -/
def Ready (r : LoopState → Option Code → Loop) (D : Nat) (W : World) : Prop := W.heap[D + 1]? = some (.loop (r .ready none)) ∧ W.heap[D]? = some (.deferred (some []))
def Left (r : LoopState → Option Code → Loop) (D : Nat) (c : Code) (W : World) : Prop := W.heap[D + 1]? = some (.loop (r .done (some c))) ∧ W.heap[D]? = some (.deferred (some []))
theorem lt_of_some {W : World} {k : Nat} {o : Obj} (h : W.heap[k]? = some o) : k < W.heap.size := (Array.getElem?_eq_some_iff.1 h).1
/-- A round's end: the record says how it went. -/
theorem end_round {W W3 : World} {B : Obj} (hB : W.heap[D + 1]? = some (.loop (recV fn tmps ps assign body D .busy none))) (hD : W.heap[D]? = some (.deferred (some []))) (hk : KeepsOthers W W3) (jump : Option Code) :
    (Instr.endRound (D + 1) jump).run P W3 = .ok (.bool jump.isNone) (W3.putObj (D + 1) (.loop (recV fn tmps ps assign body D (if jump.isNone then .ready else .done) jump))) ∧
    W3.heap[D + 1]? = some (.loop (recV fn tmps ps assign body D .busy none)) ∧
    (W3.putObj (D + 1) (.loop (recV fn tmps ps assign body D (if jump.isNone then .ready else .done) jump))).heap[D + 1]? = some (.loop (recV fn tmps ps assign body D (if jump.isNone then .ready else .done) jump)) ∧
    (W3.putObj (D + 1) (.loop (recV fn tmps ps assign body D (if jump.isNone then .ready else .done) jump))).heap[D]? = some (.deferred (some [])) := by
  have q1 := hk.same _ _ hB rfl
  have q2 := hk.same _ _ hD rfl
  exact ⟨run_endRound jump q1, q1, World.putObj_heap_same (lt_of_some q1), (World.putObj_heap_other (by omega)).trans q2⟩
end
theorem kept_put {W : World} {S : Nat → Prop} {l : Nat} (o : Obj) (hl : S l) : Kept W (W.putObj l o) S := Kept.of_grown (grownBy_putObj' W l o) (Kept.refl W _) (fun q e => by cases e; exact .inl hl)
/-- One round of a loop, as the iterator's call of yield meets it. -/
theorem round_v {n : Nat} {P : Program} {fn : FuncId} {tmps : Array Value} {ps : Array Tmp} {assign body : Code} {D B : Nat} {S : Nat → Prop} (hfn : Fence.wide.fn fn) (hS : S (D + 1)) (hBD : B ≤ D)
    {I : World → World → Prop} {Y : World → Prop} {Yx : Code → World → Prop} {v : Array Value} {a1 : Act} {W : World} (hv : v.size = ps.size) (hr : Ready (recV fn tmps ps assign body D) D W)
    (hYo : ∀ (W : World) (o o' : Obj), Y W → W.heap[D + 1]? = some o → o.isCells = false → Y (W.putObj (D + 1) o')) (hYxo : ∀ (c : Code) (W : World) (o o' : Obj), Yx c W → W.heap[D + 1]? = some o → o.isCells = false → Yx c (W.putObj (D + 1) o'))
    (hassign : ∀ (K : Act → World → Prop), K a1 W → assign.wpIn (Fence.wide.inRound (D + 1)) n P (Exit.then K (fun _ _ _ => False)) { tmps := (ps.zip v).foldl (fun t (p, v) => t.setIfInBounds p v) tmps, defers := [] } W)
    (hbody : body.wpIn (Fence.wide.inRound (D + 1)) n P (ownPostK (α := Unit) (fun X Z => Kept X Z S) (fun _ => Y) (fun c _ => Yx c) [] (W.putObj (D + 1) (.loop (recV fn tmps ps assign body D .busy none)))) a1 (W.putObj (D + 1) (.loop (recV fn tmps ps assign body D .busy none)))) :
    YieldAt Fence.wide n P (D + 1) v W fun e W' => ∃ b, e = .returned (.bool b) ∧ ((b = true ∧ (Y W' ∧ Ready (recV fn tmps ps assign body D) D W') ∧ Kept W W' S) ∨ (b = false ∧ ∃ c, Yx c W' ∧ Left (recV fn tmps ps assign body D) D c W')) := by
  obtain ⟨hl, hd⟩ := hr
  refine ⟨fn, _, assign, body, run_yield (r := recV fn tmps ps assign body D .ready none) hl hv, roundIn_of_wpIn hfn (hassign _ ⟨_, run_beginRound (r := recV fn tmps ps assign body D .ready none) hl rfl, ?_⟩)⟩
  have b1 : (W.putObj (D + 1) (.loop (recV fn tmps ps assign body D .busy none))).heap[D + 1]? = some (.loop (recV fn tmps ps assign body D .busy none)) := World.putObj_heap_same (lt_of_some hl)
  have b2 : (W.putObj (D + 1) (.loop (recV fn tmps ps assign body D .busy none))).heap[D]? = some (.deferred (some [])) := (World.putObj_heap_other (by omega)).trans hd
  have b3 : Kept W (W.putObj (D + 1) (.loop (recV fn tmps ps assign body D .busy none))) S := kept_put _ hS
  refine wpIn_mono hbody ?_
  rintro e a3 W3 hp
  cases e with
  | normal =>
    obtain ⟨h1, h2, h3⟩ := hp
    obtain ⟨r1, r2, r3, r4⟩ := end_round (P := P) (B := .deferred none) b1 b2 h1 none
    exact ⟨_, _, r1, true, rfl, .inl ⟨rfl, ⟨hYo _ _ _ h3 r2 rfl, r3, r4⟩, (b3.then_ h2 (fun _ h => .inl h)).then_ (kept_put _ hS) (fun _ h => .inl h)⟩⟩
  | ret =>
    obtain ⟨h1, h3⟩ := hp
    obtain ⟨r1, r2, r3, r4⟩ := end_round (P := P) (B := .deferred none) b1 b2 h1 (some .ret)
    exact ⟨_, _, r1, false, rfl, .inr ⟨rfl, _, hYxo _ _ _ _ h3 r2 rfl, r3, r4⟩⟩
  | exit id =>
    obtain ⟨h1, h3⟩ := hp
    obtain ⟨r1, r2, r3, r4⟩ := end_round (P := P) (B := .deferred none) b1 b2 h1 (some (.exit id))
    exact ⟨_, _, r1, false, rfl, .inr ⟨rfl, _, hYxo _ _ _ _ h3 r2 rfl, r3, r4⟩⟩
  | goto t =>
    obtain ⟨h1, h3⟩ := hp
    obtain ⟨r1, r2, r3, r4⟩ := end_round (P := P) (B := .deferred none) b1 b2 h1 (some (.goto t))
    exact ⟨_, _, r1, false, rfl, .inr ⟨rfl, _, hYxo _ _ _ _ h3 r2 rfl, r3, r4⟩⟩
  | panic ch => exact hp.elim
  | outgrown => exact hp.elim
/-- The range over such an iterator. -/
theorem range_v {n : Nat} {P : Program} {g : Operand} {ps : Array Tmp} {assign body : Code} {Q : Exit → Act → World → Prop} {a : Act} {w : World} (h1 : 1 ≤ n) {gf : Nat} {lb : Array Value} (hg : a.eval g = .func (.func gf) #[] lb)
    (eg : ∀ args w, (callFunc gf args).run P w = .ok (.enter gf args) w) {V : Nat → Array Value → World → World → Prop} {S : Nat → Prop} {N : Nat} (hseq : SeqV (n - 1) P gf lb V S N w) (hS : ∀ q, w.heap.size ≤ q → S q)
    (hV : ∀ k v W0 W1, V k v W0 W1 → Below W0.heap.size W0 W1 ∧ v.size = ps.size)
    (I : Nat → World → Prop) (I' : Nat → Array Value → World → Prop) (Ix : Code → Nat → World → Prop) (hI : OwnFrom w.heap.size I) (hI' : ∀ k v (W : World) (o o' : Obj), I' k v W → W.heap[w.heap.size + 1]? = some o → o.isCells = false → I' k v (W.putObj (w.heap.size + 1) o')) (hIx : ∀ c, OwnFrom w.heap.size (Ix c))
    (h0 : I 0 w) (a1 : Array Value → Act) (hmeet : ∀ k v W0 W1, k < N → I k W0 → V k v W0 W1 → I' k v W1)
    (hassign : ∀ (l k : Nat) (v : Array Value) (W : World) (K : Act → World → Prop), k < N → I' k v W → K (a1 v) W → assign.wpIn (Fence.wide.inRound l) (n - 1 - 1) P (Exit.then K (fun _ _ _ => False)) { tmps := (ps.zip v).foldl (fun t (p, v) => t.setIfInBounds p v) a.tmps, defers := [] } W)
    (hbody : ∀ (l k : Nat) (v : Array Value) (W : World), k < N → I' k v W → body.wpIn (Fence.wide.inRound l) (n - 1 - 1) P (ownPostK (α := Unit) (fun X Z => Kept X Z S) (fun _ => I (k + 1)) (fun c _ => Ix c (k + 1)) [] W) (a1 v) W)
    (hdone : ∀ (W : World), I N W → W.heap[w.heap.size]? = some (.deferred (some [])) → Q .normal { a with defers := { target := .collected w.heap.size, args := #[] } :: a.defers } W)
    (hstop : ∀ (c : Code) (k : Nat) (W : World), k ≤ N → Ix c k W → W.heap[w.heap.size]? = some (.deferred (some [])) → c.wpIn Fence.wide n P Q { a with defers := { target := .collected w.heap.size, args := #[] } :: a.defers } W) :
    (Code.rangeFunc g ps assign body).wpIn Fence.wide n P Q a w := by
  refine wpIn_rangeFunc ?_
  intro fn hfn
  have hsz : ((w.alloc (.deferred (some []))).alloc (.loop (recV fn a.tmps ps assign body w.heap.size .ready none))).heap.size = w.heap.size + 2 := by simp
  refine ⟨w.heap.size + 1, [{ target := .collected w.heap.size, args := #[] }], (w.alloc (.deferred (some []))).alloc (.loop (recV fn a.tmps ps assign body w.heap.size .ready none)), { target := .fn (.func gf) lb, args := #[.func (.yield (w.heap.size + 1)) #[] #[]] }, ((w.alloc (.deferred (some []))).alloc (.loop (recV fn a.tmps ps assign body w.heap.size .ready none))), gf,
    #[.func (.yield (w.heap.size + 1)) #[] #[]] ++ lb, ((w.alloc (.deferred (some []))).alloc (.loop (recV fn a.tmps ps assign body w.heap.size .ready none))), run_enterLoop_outer _ _ _ _ _, by simp only [resolve, hg]; simp [go_sem], fun f' hf' => trivial, by simp [invoke, go_sem, eg], fun _ => h1, ?_⟩
  have hL : ((w.alloc (.deferred (some []))).alloc (.loop (recV fn a.tmps ps assign body w.heap.size .ready none))).heap[w.heap.size + 1]? = some (.loop (recV fn a.tmps ps assign body w.heap.size .ready none)) := by
    have := World.alloc_heap_new (w.alloc (.deferred (some []))) (.loop (recV fn a.tmps ps assign body w.heap.size .ready none)); rwa [World.size_alloc] at this
  have hD : ((w.alloc (.deferred (some []))).alloc (.loop (recV fn a.tmps ps assign body w.heap.size .ready none))).heap[w.heap.size]? = some (.deferred (some [])) := (Below.heap_alloc _ _ _ (by simp)).trans (World.alloc_heap_new w _)
  have hK : Kept w ((w.alloc (.deferred (some []))).alloc (.loop (recV fn a.tmps ps assign body w.heap.size .ready none))) S := Kept.of_below (((Below.refl _ w).alloc (Nat.le_refl _) _).alloc (by simp) _) S
  refine (hseq (w.heap.size + 1) (fun k W => I k W ∧ Ready (recV fn a.tmps ps assign body w.heap.size) w.heap.size W) (fun k W => ∃ c, Ix c k W ∧ Left (recV fn a.tmps ps assign body w.heap.size) w.heap.size c W) _ hK ?_ ⟨hI.alloc _ (hI.alloc _ h0), hL, hD⟩).mono ?_
  · rintro k v W0 W1 hk ⟨hi, hl, hd⟩ hv
    obtain ⟨hb, hs⟩ := hV k v W0 W1 hv
    have hr : Ready (recV fn a.tmps ps assign body w.heap.size) w.heap.size W1 := ⟨(hb.block _ (lt_of_some hl)).trans hl, (hb.block _ (lt_of_some hd)).trans hd⟩
    have hi' := hmeet k v W0 W1 hk hi hv
    obtain ⟨f1, t1, s1, b1, y1, y2⟩ := round_v (n := n - 1 - 1) (P := P) (B := w.heap.size) (S := S) hfn (hS _ (Nat.le_succ _)) (Nat.le_refl _) (I := fun _ _ => True) (Y := I (k + 1)) (Yx := fun c => Ix c (k + 1)) (a1 := a1 v) hs hr
      (fun W o o' h q z => hI.putObj o' h (Nat.le_succ _) q z) (fun c W o o' h q z => (hIx c).putObj o' h (Nat.le_succ _) q z) (fun K hK => hassign _ k v W1 K hk hi' hK) (hbody _ k v _ hk (hI' k v W1 _ _ hi' hr.1 rfl))
    refine ⟨f1, t1, s1, b1, y1, y2.mono ?_⟩
    rintro e W' ⟨b, he, (⟨q1, q2, q3⟩ | ⟨q1, q2⟩)⟩
    · exact ⟨b, he, .inl ⟨q1, q2, (Kept.of_below hb S).then_ q3 (fun _ h => .inl h)⟩⟩
    · exact ⟨b, he, .inr ⟨q1, q2⟩⟩
  · rintro e W2 ⟨⟨v, rfl⟩, (⟨hi, hl, hd⟩ | ⟨k, hk, c, hi, hl, hd⟩)⟩
    · exact ⟨none, _, run_endLoop hl (by simp [recV]), hdone _ (hI.putObj _ hi (Nat.le_succ _) hl rfl) ((World.putObj_heap_other (by omega)).trans hd)⟩
    · exact ⟨some c, _, run_endLoop hl (by simp [recV]), hstop c k _ hk ((hIx c).putObj _ hi (Nat.le_succ _) hl rfl) ((World.putObj_heap_other (by omega)).trans hd)⟩
end Go.Proofs.Ythnadkdfgckijaa.Pure
namespace Go.Proofs.Ythnadkdfgckijaa.Pure
open Go.RowKit Go.Proofs.Ythnadkdfgckijaa Go.Proofs.Ythnadkdfgckijaa.PAll Go.Proofs.Ythnadkdfgckijaa.Mem Go.Proofs.YthnadkdfgckijaaW.PrintWords Go.Proofs.YthnadkdfgckijaaW.PrintLast Go.Proofs.YthnadkdfgckijaaW.PrintMore
set_option linter.unusedVariables false
set_option linter.unusedSimpArgs false

theorem RowsAt.C {w : World} {A : Option Addr} {c : Nat} {F : Nat → Prop} {B : List (List Int)} (h : RowsAt w A c F B) (hn : B.length ≤ 1000000) : Kd.C (Kd.slice 5 (Kd.int .u8)) w A B.length B := by
  obtain ⟨ok, gB, gs, cs, cur, h1, h2, h3, h4, h5, h6⟩ := h
  subst h1
  refine ⟨rfl, by omega, fun _ => ⟨_, rfl, fun j p hj => ?_⟩⟩
  obtain ⟨hj', rfl⟩ := List.getElem?_eq_some_iff.1 hj
  obtain ⟨q1, q2, q3, q4, bc, q5, q6⟩ := h5 j hj'
  have hp : (B[j]).length = 256 := (ok _ (List.getElem_mem _)).1
  rw [List.getD_eq_getElem?_getD, hj, Option.getD_some] at q6
  refine ⟨[.slice (some ⟨gs j, 0, none⟩) 256 (cs j)], rfl, ⟨_, cs j, by rw [hp], by rw [hp]; exact q2, blk_C (enc := Value.int .u8) (h1 := fun _ => rfl) q5 (by rw [List.drop_zero, hp]; exact q6) (by omega)⟩, fun i u hu => ?_⟩
  have hi : i = 0 := by
    rcases i with _ | i
    · rfl
    · simp at hu
  subst hi
  simp only [List.getElem?_cons_zero, Option.some.injEq] at hu
  subst hu
  have e : (⟨gB, 0, none⟩ : Addr).add (j * (Kd.slice 5 (Kd.int .u8)).sz + 0) = ⟨gB, j, none⟩ := by
    show (⟨gB, 0, none⟩ : Addr).add (j * 1 + 0) = _
    rw [add_at, Nat.mul_one, Nat.add_zero, Nat.zero_add]
  rw [e]
  rw [blk_cell h4]
  simpa using q1
theorem flat_len {B : List (List Int)} (h : BlkOk B) : B.flatten.length = 256 * B.length := by
  induction B with
  | nil => rfl
  | cons a B ih =>
    rw [List.flatten_cons, List.length_append, ih (fun b hb => h b (List.mem_cons_of_mem _ hb)), (h a (List.mem_cons_self ..)).1, List.length_cons]
    omega
theorem flat_bytes {B : List (List Int)} (h : BlkOk B) : Bytes B.flatten := fun x hx => by
  obtain ⟨b, hb, hxb⟩ := List.mem_flatten.1 hx
  exact (h b hb).2 x hxb
theorem Dk.ok {w : World} {g : Nat} {s : DS} {V : Nat → Prop} (h : Dk w g s V) : BlkOk s.B ∧ PenOk s.B.length s.P ∧ 0 < s.B.length := by
  obtain ⟨U, ⟨lt, ug, pen, pos, A, Ak, c, ck, vP, FB, FW, FK, h1, h2, _⟩, _⟩ := h
  exact ⟨h2.ok, pen, pos⟩
set_option maxRecDepth 100000 in
set_option maxHeartbeats 4000000 in
theorem n_image {w : World} {g : Nat} {s : DS} {V : Nat → Prop} (h : Dk w g s V) (hn : s.B.length ≤ 1000000) {m : Nat} (hm : 256 * s.B.length = m) : Calls Try.prog 21 #[.pointer (some ⟨g, 0, none⟩)] w fun e w' => ∃ Y d, e = .returned (.slice Y m d) ∧ Own w' w.heap.size Y d s.B.flatten ∧ Below w.heap.size w w' := by
  obtain ⟨U, ⟨lt, ug, pen, pos, A, Ak, c, ck, vP, FB, FW, FK, h1, h2, h3, h4, h5, h6, h7, h8⟩, h0⟩ := h
  have HC := Aside0.mk (h2.C hn)
  have HL := Aside0.mk (flat_len h2.ok)
  have HM := Aside0.mk hm
  have HN := Aside0.mk hn
  have HCC := Aside0.mk (show s.B.length ≤ c from by obtain ⟨_, _, _, _, _, _, q, _⟩ := h2; exact q)
  obtain ⟨z0, z1, z2, z3, z4, z5⟩ := dk_cells h1
  clear h1 h2 h3 h4 h5 h6 h7 h8 h0 lt ug pen pos z1 z2 z3 z4 z5 hm hn
  go_enter Try.func21, Try.ntmps21
  go_wp2_with fail
  refine (slices_Concat_byte_byte.calls A c s.B s.B.flatten w HC.out HCC.out (by unfold slices_Concat_byte_byte.f; rw [if_pos (by have := HL.out; have := HN.out; omega)])).mono ?_
  rintro e w1 ⟨v, rfl, hR, hb⟩
  obtain ⟨Y, d, rfl, hO⟩ := own_of hR
  have OO := Aside0.mk hO
  have BB := Aside0.mk hb
  clear hR hO hb
  rw [HL.out, HM.out]
  go_wp2_with fail
  go_ret
  exact ⟨_, _, rfl, OO.out, BB.out⟩

set_option maxRecDepth 100000 in
set_option maxHeartbeats 16000000 in
/-- A row of what is pending, copied; its inner rows are shared. -/
theorem clone_w {w : World} {v : Value} {FW : Nat → Prop} {P : List (Int × List Int)} (h : Kd.R kW 101 w 0 FW v P) (hF : ∀ k, FW k → k < w.heap.size) (hP : P.length ≤ 1000000) :
    Calls Try.prog 65 #[v] w fun e w' => ∃ v', e = .returned v' ∧ Kd.R kW 101 w' 0 (fun k => FW k ∨ w.heap.size ≤ k) v' P ∧ Below w.heap.size w w' := by
  obtain ⟨hok, inner, hown, hr⟩ := h
  obtain ⟨A, c, rfl, hc, hrow⟩ := OwnRow.reads ⟨inner, hown, hr⟩
  have HROW := Aside0.mk hrow
  have HF := Aside0.mk hF
  have HPP := Aside0.mk hP
  have HB := Aside0.mk (Below.refl w.heap.size w)
  clear hok hown hr hc hrow hF hP
  have ke := fun (w : World) (n c : Nat) => Lib.run_eql_slice_nil (P := Try.prog) w 53 101 A n c 0 0 Try.underlying53
  cases A with
  | none =>
    have h0 : P.length = 0 := by
      rcases Nat.eq_zero_or_pos P.length with h | h
      · exact h
      · obtain ⟨ad, e, _⟩ := HROW.out.2.2 h
        cases e
    have h1 : P = [] := List.eq_nil_of_length_eq_zero h0
    subst h1
    go_enter Try.func65, Try.ntmps65
    go_wp2
    go_ret
    exact ⟨_, rfl, Kd.R_nil _ _ _ _ _, Below.refl _ _⟩
  | some ad =>
    go_enter Try.func65, Try.ntmps65
    go_wp2_with ((with_reducible refine gate_builtin (b := .append) (xs := #[.tmp 5, .tmp 6]) rfl ?_); at_builtin; refine Kd.R_append_rows kW (Rr := kW.M w 0 fun k => FW k ∧ some k ≠ (Value.slice (some ad) P.length c).ownBlock) (w0 := w) (W := w.alloc (.cells #[] 101)) 0 (by rfl) (.tmp 5) (.tmp 6) 53 101 (.agg #[.int .i64 0, .slice none 0 0]) 32 rfl Try.underlying53 info101 rfl (by decide) (by decide) (.slice (some ⟨w.heap.size, 0, none⟩) 0 0) ([] : List (Int × List Int)) P (some ad) P.length c (fun k => FW k ∨ w.heap.size ≤ k) FW rfl rfl ?aO ?aR ?aM ?aK ?aQ ?aB ?aS ?aL ?_)
    case aO => exact ⟨fun k hk => .inr (by cases hk; exact Nat.le_refl _), [], World.ownsRow_made w #[] 0 (Nat.zero_le _) (by unfold maxLen; omega) rfl, Reps.none _ _⟩
    case aR => exact HROW.out.imp_ ((Below.refl _ _).alloc (Nat.le_refl _) _) (fun _ _ h => h)
    case aM => exact fun x cs h => kW.M_mono (fun k hk => hk.1) (kW.M_move (fun k hk => Below.heap_alloc _ _ _ (HF.out k hk.1)) h)
    case aK => exact fun k hk => ⟨.inl hk, fun e => by cases e; exact Nat.lt_irrefl _ (HF.out _ hk)⟩
    case aQ => exact fun k hk => .inr (by simp at hk; omega)
    case aB => exact (HB.out.alloc (Nat.le_refl _) _).mono (Nat.zero_le _)
    case aS => exact Nat.zero_le _
    case aL => have := HPP.out; simp; omega
    intro v1 w1 ho hb hg hat
    have HO := Aside0.mk ho
    have HG := Aside0.mk (show Below w.heap.size w w1 from (HB.out.alloc (Nat.le_refl _) _).grown hg (by simp) (fun j e => by cases e; exact Nat.le_refl _))
    clear ho hb hg hat
    go_wp2
    go_ret
    exact ⟨_, rfl, HO.out, HG.out⟩
end Go.Proofs.Ythnadkdfgckijaa.Pure
namespace Go.Proofs.Ythnadkdfgckijaa.Pure
open Go.RowKit Go.Proofs.Ythnadkdfgckijaa Go.Proofs.Ythnadkdfgckijaa.PAll Go.Proofs.Ythnadkdfgckijaa.Mem Go.Proofs.YthnadkdfgckijaaW.PrintWords Go.Proofs.YthnadkdfgckijaaW.PrintLast Go.Proofs.YthnadkdfgckijaaW.PrintMore
set_option linter.unusedVariables false
set_option linter.unusedSimpArgs false

/-- A row of what is pending, in a box. -/
def PenAt (w : World) (gL : Nat) (ok : Nat → Prop) (P : List (Int × List Int)) : Prop := ∃ v, Boxed w gL 53 v ∧ Kd.R kW 101 w 0 ok v P
set_option maxRecDepth 100000 in
set_option maxHeartbeats 4000000 in
theorem pend_f {w : World} {g : Nat} {s : DS} {V : Nat → Prop} (h : Dk w g s V) (hP : s.P.length ≤ 1000000) :
    Calls Try.prog 61 #[.pointer (some ⟨g, 0, none⟩)] w fun e w' => ∃ gL, e = .returned (.func (.func 89) #[] #[.pointer (some ⟨gL, 0, none⟩)]) ∧ w.heap.size ≤ gL ∧ PenAt w' gL (fun k => (V k ∨ w.heap.size ≤ k) ∧ k ≠ gL) s.P ∧ Below w.heap.size w w' := by
  obtain ⟨U, ⟨lt, ug, pen, pos, A, Ak, c, ck, vP, FB, FW, FK, h1, h2, h3, h4, h5, h6, h7, h8⟩, h0⟩ := h
  have HB := Aside0.mk ((Below.refl w.heap.size w).alloc (Nat.le_refl _) (.cells #[.slice none 0 0] 53))
  have HR := Aside0.mk (Kd.R_below h3 (HB.out))
  have HX := Aside0.mk (heap_new w (.cells #[.slice none 0 0] 53))
  have hg1 := (HB.out.block _ (blk_lt h1)).trans h1
  have HF := Aside0.mk (show ∀ k, FW k → k < w.heap.size from fun k q => lt k (h7 k q).1)
  have HV := Aside0.mk (show ∀ k, FW k → V k from fun k q => h0 k (h7 k q).1)
  have HP := Aside0.mk hP
  obtain ⟨z0, z1, z2, z3, z4, z5⟩ := dk_cells hg1
  clear h1 h2 h3 h4 h5 h6 h7 h8 h0 lt ug pen pos z0 z2 z3 z4 z5 hP hg1
  go_enter Try.func61, Try.ntmps61
  go_wp2_with fail
  refine (clone_w HR.out (fun k q => by have := HF.out k q; simp; omega) HP.out).mono ?_
  rintro e w1 ⟨v', rfl, hR, hb⟩
  obtain ⟨A1, c1, rfl, _, _⟩ := R_own hR
  have RR := Aside0.mk hR
  have BB := Aside0.mk hb
  have X1 := Aside0.mk ((hb.block _ (blk_lt HX.out)).trans HX.out)
  have f1 := blk_frozen X1.out 0
  have cX : w1.cell? ⟨w.heap.size, 0, none⟩ = some (.slice none 0 0) := by rw [blk_cell X1.out]; rfl
  clear hR hb z1 HR
  go_wp2_with fail
  go_ret
  have hbx : Boxed (w1.setCell ⟨w.heap.size, 0, none⟩ (.slice A1 s.P.length c1)) w.heap.size 53 (.slice A1 s.P.length c1) := Boxed.set _ (show Boxed w1 _ 53 _ from X1.out)
  refine ⟨w.heap.size, rfl, Nat.le_refl _, ⟨_, hbx, ?_⟩, (HB.out.trans (BB.out.mono HB.out.size)).setCell (p := ⟨w.heap.size, 0, none⟩) (Nat.le_refl _) _⟩
  have hne : ∀ k, FW k ∨ (w.alloc (.cells #[.slice none 0 0] 53)).heap.size ≤ k → k ≠ w.heap.size := by
    rintro k (q | q) e
    · have := HF.out k q; omega
    · simp at q; omega
  refine Kd.R_mono (Kd.R_step RR.out (fun k hk hlt => Below.heap_setCell w1 _ _ k (hne k hk))) ?_
  intro k hk
  refine ⟨?_, hne k hk⟩
  rcases hk with q | q
  · exact .inl (HV.out k q)
  · right; simp at q; omega
/-- The values of a round: where the block of a write is to go, and a row of its own that holds it. -/
def penV (cI : Nat → Int) (cB : Nat → List Int) (k : Nat) (v : Array Value) (W0 W1 : World) : Prop :=
  ∃ Y yd, v = #[.int .i64 (cI k), .slice Y 256 yd] ∧ Kd.R (Kd.int .u8) 5 W1 0 (fun q => W0.heap.size ≤ q) (.slice Y 256 yd) (cB k) ∧ Below W0.heap.size W0 W1
theorem box_two (w : World) (a b : Value) : (w.alloc (.cells #[a, b] 101)).cell? ⟨w.heap.size, 0, none⟩ = some a ∧ (w.alloc (.cells #[a, b] 101)).cell? ⟨w.heap.size, 1, none⟩ = some b := two_cells (heap_new w _)
theorem meas89 {k N : Nat} {v : Value} (h : k < N) (hv : v = .int .i64 ((k + 1 : Nat) : Int)) : N - (intOf v).toNat < N - (intOf (.int .i64 (k : Int))).toNat := by
  subst hv
  simp [intOf]
  omega
theorem big_n {N : Nat} (h : N ≤ 1000000) : N ≤ 9223372036854775807 := by omega
set_option maxRecDepth 100000 in
set_option maxHeartbeats 16000000 in
theorem go89 (n : Nat) (hn : 1 ≤ n) (lo : Nat) (N cP : Nat) (AP : Option Addr) (cI : Nat → Int) (cA : Nat → Option Addr) (cC : Nat → Nat) (cB : Nat → List Int) (gL : Nat) (S : Nat → Prop) (J Jx : Nat → World → Prop) (w : World) (hN : N ≤ 1000000)
    (hb : Boxed w gL 53 (.slice AP N cP)) (hbS : ¬ S gL) (hC : ∀ x, x < N → ∃ ad, AP = some ad ∧ ad.block < w.heap.size ∧ ¬ S ad.block ∧ w.cell? (ad.add (x * 2)) = some (.int .i64 (cI x)) ∧ w.cell? ⟨(ad.add (x * 2)).block, (ad.add (x * 2)).off + 1, none⟩ = some (.slice (cA x) 256 (cC x)))
    (hR : ∀ x, x < N → 256 ≤ cC x ∧ (cB x).length = 256 ∧ ∀ W', Kept w W' S → Kd.C (Kd.int .u8) W' (cA x) (cB x).length (cB x))
    (hY : ∀ k v W0 W1, k < N → J k W0 → penV cI cB k v W0 W1 → YieldAt Fence.wide (n - 1) Try.prog lo v W1 fun e W' => ∃ b, e = .returned (.bool b) ∧ ((b = true ∧ J (k + 1) W' ∧ Kept W0 W' S) ∨ (b = false ∧ Jx (k + 1) W')))
    (W : World) (hW : Kept w W S) (hJ0 : J 0 W) :
    CallsIn Fence.wide n Try.prog 89 #[.func (.yield lo) #[] #[], .pointer (some ⟨gL, 0, none⟩)] W fun e W' => (∃ v, e = .returned v) ∧ (J N W' ∨ ∃ k, k ≤ N ∧ Jx k W') := by
  have HY := Aside0.mk hY
  have BX := Aside0.mk (show ∀ W', Kept w W' S → W'.cell? ⟨gL, 0, none⟩ = some (.slice AP N cP) from fun W' hk => (show Boxed W' gL 53 _ from (hk.2 gL hb.lt hbS).trans hb).cell)
  have RX := Aside0.mk (show ∀ W', Kept w W' S → ∀ x (h : x < N), ∃ ad, AP = some ad ∧ W'.cell? (ad.add (x * 2)) = some (.int .i64 (cI x)) ∧ W'.cell? ⟨(ad.add (x * 2)).block, (ad.add (x * 2)).off + 1, none⟩ = some (.slice (cA x) 256 (cC x)) from fun W' hk x h => by
    obtain ⟨ad, h1, h2, h3, h4, h5⟩ := hC x h
    have hbk := hk.2 ad.block h2 h3
    refine ⟨ad, h1, (World.cell?_of_block (by rw [add_block]; exact hbk)).trans h4, (World.cell?_of_block (by show W'.heap[(ad.add (x * 2)).block]? = _; rw [add_block]; exact hbk)).trans h5⟩)
  have b1 := BX.out W hW
  have HW := Aside0.mk hW
  have HJ0 := Aside0.mk hJ0
  have NN := Aside0.mk hN
  have HR := Aside0.mk hR
  clear hY hb hbS hC hW hJ0 hN hR
  refine callsIn_of_wp Try.func89 rfl trivial ?_ rfl
  simp only [Try.ntmps89, List.size_toArray, List.length_cons, List.length_nil, Nat.reduceAdd, Nat.reduceSub, Array.replicate_succ, Array.replicate_zero, List.push_toArray, List.append_toArray, List.nil_append, List.cons_append]
  gi_wp2_with fail
  clear b1
  gi_loopw [7] (fun v wr => ∃ k : Nat, v = .int .i64 (k : Int) ∧ Aside0 (k ≤ N) ∧ Aside0 (Kept w wr S) ∧ Aside0 (J k wr)) (fun v _ => N - (intOf v).toNat)
  case atStart => exact ⟨0, rfl, ⟨Nat.zero_le _⟩, HW, HJ0⟩
  case round =>
    obtain ⟨k, rfl, HZ, HK, HJ⟩ := hrel
    by_cases hlt : k < N
    · obtain ⟨hgd, hgd2⟩ := di_t hlt
      obtain ⟨ad, hAP, q0, q1⟩ := RX.out wr HK.out k hlt
      obtain ⟨r1, r2, r3⟩ := HR.out k hlt
      subst hAP
      have HL := Aside0.mk hlt
      have R1 := Aside0.mk r1
      have R2 := Aside0.mk r2
      have BN := Aside0.mk ((Below.refl wr.heap.size wr).alloc (Nat.le_refl _) (.cells #[.int .i64 (cI k), .slice (cA k) 256 (cC k)] 101))
      have RC := Aside0.mk (Kd.C_drew (r3 _ (HK.out.then_ (Kept.of_below BN.out S) (fun _ h => .inl h))))
      obtain ⟨x0, x1⟩ := box_two wr (.int .i64 (cI k)) (.slice (cA k) 256 (cC k))
      have hst := stepv hlt (big_n NN.out)
      clear r1 r2 r3
      gi_wp2_with fail
      refine wpIn_np ?_
      gi_region_with (first | (refine ⟨trivial, ?_⟩; gi_at_call 55; refine ((callsIn_wide).2 (clone_r RC.out R2.out R1.out (by decide))).mono ?_; rintro e W1 ⟨Y, yd, rfl, hd, hO, hb1⟩; obtain ⟨fn, tmps, assign, body, hy, hR2⟩ := HY.out k _ wr W1 HL.out HJ.out ⟨Y, yd, rfl, Kd.R_mono hO (fun q hq => Nat.le_trans BN.out.drew.size hq.1), BN.out.drew.trans (hb1.mono BN.out.drew.size)⟩; have HRO := Aside0.mk hR2; have y0 := pw_cell_below hb1 x0; have y1 := pw_cell_below hb1 x1; clear hO hb1 hR2 x0 x1 hd) | (refine HRO.out.mono ?_; rintro e W3 ⟨b, rfl, h3⟩; have H3 := Aside0.mk h3; clear h3 hy y0 y1))
      all_goals (show Exit.then _ _ _ _ _)
      all_goals
        rcases H3.out with ⟨rfl, hJ3, hK3⟩ | ⟨rfl, hX3⟩
        · have HJ3 := Aside0.mk hJ3
          have HK3 := Aside0.mk (HK.out.then_ hK3 (fun _ h => .inl h))
          clear hJ3 hK3 H3 HRO q0 q1
          gi_wp2_with fail
          go_roundw
          case rel => exact ⟨k + 1, (by first | exact hst | rfl), HL, HK3, HJ3⟩
          case measure => exact meas89 HL.out hst
        · have HX3 := Aside0.mk hX3
          clear hX3 H3 HRO q0 q1
          gi_wp2_with fail
          refine bodyPost_ret (results_none rfl _ _ _) rfl ?_
          exact ⟨⟨_, rfl⟩, .inr ⟨k + 1, HL.out, HX3.out⟩⟩
    · obtain rfl : k = N := Nat.le_antisymm HZ.out (Nat.not_lt.1 hlt)
      obtain ⟨hgd, hgd2⟩ := di_f (rfl : k = k)
      clear hlt
      gi_wp2_with fail
      go_end0
      exact ⟨⟨_, rfl⟩, .inl HJ.out⟩
end Go.Proofs.Ythnadkdfgckijaa.Pure
namespace Go.Proofs.Ythnadkdfgckijaa.Pure
open Go.RowKit Go.Proofs.Ythnadkdfgckijaa Go.Proofs.Ythnadkdfgckijaa.PAll Go.Proofs.Ythnadkdfgckijaa.Mem Go.Proofs.YthnadkdfgckijaaW.PrintWords Go.Proofs.YthnadkdfgckijaaW.PrintLast Go.Proofs.YthnadkdfgckijaaW.PrintMore
set_option linter.unusedVariables false
set_option linter.unusedSimpArgs false

def pI (P : List (Int × List Int)) (k : Nat) : Int := (P.getD k (0, [])).1
def pB (P : List (Int × List Int)) (k : Nat) : List Int := (P.getD k (0, [])).2
theorem seq89 {n : Nat} (hn : 1 ≤ n) {w : World} {gL : Nat} {ok : Nat → Prop} {P : List (Int × List Int)} (h : PenAt w gL ok P) (S : Nat → Prop) (hS : ∀ k, ok k → k < w.heap.size → ¬ S k) (hgS : ¬ S gL) (hP : P.length ≤ 1000000) (hlen : ∀ x ∈ P, x.2.length = 256) :
    SeqV n Try.prog 89 #[.pointer (some ⟨gL, 0, none⟩)] (penV (pI P) (pB P)) S P.length w := by
  obtain ⟨v, hb, hR⟩ := h
  obtain ⟨AP, cP, rfl, hcP, hPF⟩ := R_own hR
  have hall : ∀ x, ∃ f : Option Addr × Nat, x < P.length → (∃ ad, AP = some ad ∧ ad.block < w.heap.size ∧ ¬ S ad.block ∧ w.cell? (ad.add (x * 2)) = some (.int .i64 (pI P x)) ∧ w.cell? ⟨(ad.add (x * 2)).block, (ad.add (x * 2)).off + 1, none⟩ = some (.slice f.1 256 f.2)) ∧ 256 ≤ f.2 ∧ (pB P x).length = 256 ∧ ∀ W', Kept w W' S → Kd.C (Kd.int .u8) W' f.1 (pB P x).length (pB P x) := by
    intro x
    by_cases hx : x < P.length
    · obtain ⟨ad, Ab, cb, a1, a2, a3, a4, a5⟩ := pen_at hPF hx
      have hl := hlen _ (List.getElem_mem hx)
      have e : P.getD x (0, []) = P[x] := by rw [List.getD_eq_getElem?_getD, List.getElem?_eq_getElem hx]; rfl
      obtain ⟨ad', cs', b1, b2, b3, b4, b5⟩ := Kd.F_get hPF (0, []) (x : Int) (by omega) (by omega)
      rw [a1] at b1
      injection b1 with b1
      subst b1
      have hlt : ad.block < w.heap.size := by
        have := World.block_lt_of_cell? w _ a2
        rw [add_block] at this
        exact this
      refine ⟨(Ab, cb), fun _ => ⟨⟨ad, a1, hlt, hS _ (b5 (by decide)) hlt, by unfold pI; rw [e]; exact a2, by rw [hl] at a3; exact a3⟩, by rw [hl] at a4; exact a4, by unfold pB; rw [e]; exact hl, fun W' hk => ?_⟩⟩
      unfold pB
      rw [e]
      exact a5 W' (fun k q hlt => hk.2 k hlt (hS k q hlt))
    · exact ⟨(none, 0), fun h => absurd h hx⟩
  obtain ⟨f, hf⟩ := Classical.axiomOfChoice hall
  intro lo J Jx W hW hY hJ
  exact go89 n hn lo P.length cP AP (pI P) (fun x => (f x).1) (fun x => (f x).2) (pB P) gL S J Jx w hP hb hgS (fun x hx => (hf x hx).1) (fun x hx => (hf x hx).2) hY W hW hJ
theorem own_grown {A B : World} {row : Option Nat} {N base : Nat} {Y : Option Addr} {c : Nat} {l : List Int} (h : Own A base Y c l) (hg : A.grownBy B row) (hr : ∀ r, row = some r → N ≤ r ∧ ∃ o : Obj, A.heap[r]? = some o ∧ o.isCells = false) : Own B base Y c l := by
  refine own_kept h (fun g hp hA => hg.block g (own_lt h g hp hA).2 (fun e => ?_))
  obtain ⟨_, o, ho, hc⟩ := hr g e.symm
  obtain ⟨g', cur, h1, h2, h3, h4⟩ := h.blk hp
  rw [hA] at h1
  injection h1 with h1
  injection h1 with h1
  subst h1
  rw [h3] at ho
  cases ho
  cases hc
theorem R_grown {α : Type} {d : Kd α} {e base : Nat} {ok : Nat → Prop} {A B : World} {row : Option Nat} {N : Nat} {v : Value} {l : List α} (h : Kd.R d e A base ok v l) (hg : A.grownBy B row) (hr : ∀ r, row = some r → N ≤ r ∧ ∃ o : Obj, A.heap[r]? = some o ∧ o.isCells = false) : Kd.R d e B base ok v l := by
  refine Kd.R_mono (Kd.R_step (Kd.R_bound h) (fun k hk hlt => hg.block k hlt (fun e' => ?_))) (fun k hk => hk.1)
  obtain ⟨_, o, ho, hc⟩ := hr k e'.symm
  obtain ⟨_, _, _, q, _, cells, hq⟩ := hk
  rw [hq] at ho
  cases ho
  cases hc
theorem wpListIn_append_R {F : Fence} {n : Nat} {P : Program} {ops : Array Oper} {rest : List Oper} {o : Oper} {a : Act} {Q : Exit → Act → World → Prop} {α : Type} (d : Kd α) {W : World} (base : Nat) (hgd : o.guard = none) (s x : Operand) (t e : TypeId) (z : Value) (bytes : Nat)
    (ho : o.op = .call { callee := .builtin .append, args := #[s, x], argTypes := #[t, t] }) (ht : P.underlying t = some (.slice e)) (hinfo : (P.info? e).map (fun i => (i.zero, i.size, i.bytes)) = some (some z, d.sz, bytes)) (hz : z.cells.size = d.sz) (hs0 : 0 < d.sz) (hb0 : 0 < bytes)
    (v : Value) (xs : List α) (p : α) (cs : List Value) (ok okp : Nat → Prop) (hs : a.eval s = v) (hx : a.eval x = .slice (some ⟨W.heap.size, 0, none⟩) 1 1) (hp : d.M W base okp p cs) (hokp : ∀ k, okp k → ok k ∧ some k ≠ v.ownBlock) (hfresh : ∀ k, W.heap.size ≤ k → ok k)
    (HO : d.R e W base ok v xs) (hbase : base ≤ W.heap.size) (hl : (xs.length + 1) * bytes ≤ 140737488355328)
    (h : ∀ v1 w1, d.R e w1 base ok v1 (xs ++ [p]) → W.grownBy w1 v.ownBlock → wpListIn F n P ops Q rest (a.put o.dst v1) w1) :
    wpListIn F n P ops Q (o :: rest) a (W.alloc (.cells cs.toArray e)) := by
  obtain ⟨h0, inner, hown, hr⟩ := HO
  obtain ⟨i0, hi, hzz⟩ := Option.map_eq_some_iff.1 hinfo
  simp only [Prod.mk.injEq] at hzz
  obtain ⟨hz0, hz1, hz2⟩ := hzz
  have hlen : xs.length + 1 ≤ 140737488355328 := Nat.le_trans (Nat.le_mul_of_pos_right _ hb0) hl
  have hcl : cs.length = 1 * d.sz := by rw [Nat.one_mul]; exact d.K_len (d.K_of_M hp)
  refine wpListIn_plain hgd fun K hK' => ?_
  obtain ⟨v', w', hrun, r1, r2, r3, r4⟩ := run_append_own_at (P := P) (w := W.alloc (.cells cs.toArray e)) base t o.type e i0 z d.sz bytes ht hi hz0 hz1 hz2 hz hs0 v xs.length inner (hown.alloc _) ⟨W.heap.size, 0, none⟩ 1 1 cs hcl
    (by simpa using World.news_of_block (cs := cs.toArray) (t := e) (fr := (0, 0)) (heap_alloc_new W (.cells cs.toArray e))) (d.K_one (d.K_of_M hp)) (by simp only [maxLen]; omega) hl (by simp; omega)
  have hg : W.grownBy w' v.ownBlock := World.grownBy.trans (World.grownBy_alloc W _ _) r2
  unfold Oper.wpIn
  refine ⟨?_, ?_⟩
  · simp [Oper.about, ho, resolve, Target.leads, Sem.run_pure]
  · rw [Oper.semAt_plain F _ _ (by rw [ho]; intro c hc'; cases hc')]
    simp [execOp, ho, resolve, invoke, builtin, hs, hx, hrun, Result.andThen]
    refine hK' _ _ (h v' w' (Kd.R_appended h0 hr hp hokp hfresh r1 hg ?_) hg)
    rcases r4 with r4 | r4
    · exact .inl r4
    · exact .inr ⟨_, r4, by simp⟩
set_option maxRecDepth 100000 in
theorem nil108 (p : Value) (W : World) : (binOp .eql 108 (.func (.func 89) #[] #[p]) .nilFunc).run Try.prog W = .ok (.bool false) W := by rfl
theorem info43 : (Try.prog.info? 43).map (fun i => (i.zero, i.size, i.bytes)) = some (some (.agg #[.int .i64 0, .slice none 0 0]), kW.sz, 32) := by kernel_rfl
/-- What the range holds. -/
structure PenI (w : World) (B1 : Nat) (most : Int) (Z : Nat → Prop) (l : List (Int × List Int)) (W : World) : Prop where
  m : Boxed W w.heap.size 3 (.int .i64 most)
  l : ∃ v, Boxed W (w.heap.size + 1) 38 v ∧ Kd.R kW 43 W 0 Z v l
  b : Below w.heap.size w W
  s : B1 ≤ W.heap.size
theorem PenI.grown {w : World} {B1 : Nat} {most : Int} {Z : Nat → Prop} {l : List (Int × List Int)} {A B : World} {row : Option Nat} {N : Nat} (h : PenI w B1 most Z l A) (hN : w.heap.size ≤ N) (hg : A.grownBy B row) (hr : ∀ r, row = some r → N ≤ r ∧ ∃ o : Obj, A.heap[r]? = some o ∧ o.isCells = false) : PenI w B1 most Z l B := by
  obtain ⟨v, h1, h2⟩ := h.l
  exact ⟨boxed_own h.m hg hr, ⟨v, boxed_own h1 hg hr, R_grown h2 hg hr⟩, below_own h.b hg hr hN, Nat.le_trans h.s hg.size⟩
theorem PenI.below {w : World} {B1 : Nat} {most : Int} {Z : Nat → Prop} {l : List (Int × List Int)} {A B : World} (h : PenI w B1 most Z l A) (hb : Below A.heap.size A B) : PenI w B1 most Z l B := by
  obtain ⟨v, h1, h2⟩ := h.l
  exact ⟨(hb.block _ h.m.lt).trans h.m, ⟨v, (hb.block _ h1.lt).trans h1, Kd.R_below h2 hb⟩, h.b.trans (hb.mono h.b.size), Nat.le_trans h.s hb.size⟩
theorem PenI.upto {w : World} {B1 : Nat} {most : Int} {Z : Nat → Prop} {l : List (Int × List Int)} {W : World} (h : PenI w B1 most Z l W) : PenI w B1 most (fun k => Z k ∧ k < W.heap.size) l W := by
  obtain ⟨v, h1, h2⟩ := h.l
  exact ⟨h.m, ⟨v, h1, Kd.R_mono (Kd.R_bound h2) (fun k hk => ⟨hk.1, hk.2.2.1⟩)⟩, h.b, h.s⟩
theorem PenI.mono {w : World} {B1 : Nat} {most : Int} {Z Z' : Nat → Prop} {l : List (Int × List Int)} {W : World} (h : PenI w B1 most Z l W) (hz : ∀ k, Z k → Z' k) : PenI w B1 most Z' l W := by
  obtain ⟨v, h1, h2⟩ := h.l
  exact ⟨h.m, ⟨v, h1, Kd.R_mono h2 hz⟩, h.b, h.s⟩
/-- A round's append. -/
theorem pen_step {w W w1 : World} {B1 : Nat} {most : Int} {Z : Nat → Prop} {l : List (Int × List Int)} {x : Int × List Int} {v v1 : Value} (hB : w.heap.size + 2 ≤ B1) (hm : Boxed W w.heap.size 3 (.int .i64 most)) (hv : Boxed W (w.heap.size + 1) 38 v) (hR : Kd.R kW 43 W 0 Z v l) (hZ : ∀ k, Z k → B1 ≤ k) (hb : Below w.heap.size w W) (hs : B1 ≤ W.heap.size)
    (hg : W.grownBy w1 v.ownBlock) (hR1 : Kd.R kW 43 w1 0 (fun k => B1 ≤ k) v1 (l ++ [x])) :
    Boxed w1 (w.heap.size + 1) 38 v ∧ KeepsOthers W (w1.setCell ⟨w.heap.size + 1, 0, none⟩ v1) ∧ Kept W (w1.setCell ⟨w.heap.size + 1, 0, none⟩ v1) (fun q => q = w.heap.size + 1 ∨ B1 ≤ q) ∧ PenI w B1 most (fun k => B1 ≤ k) (l ++ [x]) (w1.setCell ⟨w.heap.size + 1, 0, none⟩ v1) := by
  have hown : ∀ k, v.ownBlock = some k → B1 ≤ k ∧ ∃ cells q, W.heap[k]? = some (.cells cells q (0, 0)) := fun k hk => by
    obtain ⟨q1, _, _, q, _, cells, hq⟩ := (Kd.R_bound hR).1 k hk
    exact ⟨hZ k q1, cells, q, hq⟩
  have hv1 : Boxed w1 (w.heap.size + 1) 38 v := hv.kept hg (fun e => by have := (hown _ e.symm).1; omega)
  have hm1 : Boxed w1 w.heap.size 3 (.int .i64 most) := hm.kept hg (fun e => by have := (hown _ e.symm).1; omega)
  refine ⟨hv1, (KeepsOthers.of_grownBy hg (fun j o e ho => ?_)).trans (KeepsOthers.setCell _ _ _), (Kept.of_grown hg (Kept.refl W _) (fun q e => .inl (.inr (hown q e).1))).then_ ⟨by simp, fun k hk hn => Below.heap_setCell w1 _ v1 k (fun e => hn (.inl e))⟩ (fun _ h => .inl h), ⟨?_, ⟨v1, hv1.set v1, ?_⟩, ?_, ?_⟩⟩
  · obtain ⟨_, cells, q, hq⟩ := hown j e
    rw [hq] at ho
    cases ho
    rfl
  · exact (Below.heap_setCell w1 ⟨w.heap.size + 1, 0, none⟩ v1 w.heap.size (by show _ ≠ w.heap.size + 1; omega)).trans hm1
  · exact Kd.R_step hR1 (fun k hk hlt => Below.heap_setCell w1 _ v1 k (by show k ≠ w.heap.size + 1; omega))
  · exact (hb.grown hg hb.size (fun j e => by have := (hown j e).1; omega)).setCell (p := ⟨w.heap.size + 1, 0, none⟩) (Nat.le_succ _) v1
  · have := hg.size
    simp
    omega
end Go.Proofs.Ythnadkdfgckijaa.Pure
namespace Go.Proofs.Ythnadkdfgckijaa.Pure
open Go.RowKit Go.Proofs.Ythnadkdfgckijaa Go.Proofs.Ythnadkdfgckijaa.PAll Go.Proofs.Ythnadkdfgckijaa.Mem Go.Proofs.YthnadkdfgckijaaW.PrintWords Go.Proofs.YthnadkdfgckijaaW.PrintLast Go.Proofs.YthnadkdfgckijaaW.PrintMore
set_option linter.unusedVariables false
set_option linter.unusedSimpArgs false

/-- What a disk's Pending leaves: an iterator over a row of its own. -/
def Pends (w : World) (pd : Value) (P : List (Int × List Int)) : Prop :=
  ∀ w1, Below w.heap.size w w1 → Calls Try.prog 61 #[pd] w1 fun e w' => ∃ gL, e = .returned (.func (.func 89) #[] #[.pointer (some ⟨gL, 0, none⟩)]) ∧ w1.heap.size ≤ gL ∧ PenAt w' gL (fun k => (k < w.heap.size ∨ w1.heap.size ≤ k) ∧ k ≠ gL) P ∧ Below w1.heap.size w1 w'
theorem dk_pends {w : World} {g : Nat} {s : DS} {V : Nat → Prop} (h : Dk w g s V) (hP : s.P.length ≤ 1000000) : Pends w (.pointer (some ⟨g, 0, none⟩)) s.P := fun w1 hb =>
  pend_f ((h.mono (V' := fun k => k < w.heap.size) (fun k _ hk => hk)).below hb) hP
/-- The parts of the range's invariant, ahead of a round, in it, where it is left. -/
def QI (w : World) (B1 : Nat) (most : Int) (P : List (Int × List Int)) (k : Nat) (W : World) : Prop := k ≤ most.toNat ∧ PenI w B1 most (fun q => B1 ≤ q) (P.take k) W
def QI' (w : World) (B1 : Nat) (most : Int) (P : List (Int × List Int)) (k : Nat) (v : Array Value) (W : World) : Prop :=
  k ≤ most.toNat ∧ ∃ T Y yd, B1 ≤ T ∧ v = #[.int .i64 (pI P k), .slice Y 256 yd] ∧ PenI w B1 most (fun q => B1 ≤ q ∧ q < T) (P.take k) W ∧ Kd.R (Kd.int .u8) 5 W 0 (fun q => T ≤ q) (.slice Y 256 yd) (pB P k)
def QIx (w : World) (B1 : Nat) (most : Int) (P : List (Int × List Int)) (c : Code) (k : Nat) (W : World) : Prop := c = .exit 0 ∧ PenI w B1 most (fun q => B1 ≤ q) (P.take most.toNat) W
theorem qi_meet {w : World} {B1 : Nat} {most : Int} {P : List (Int × List Int)} (k : Nat) (v : Array Value) (W0 W1 : World) (hk : k < P.length) (h : QI w B1 most P k W0) (hv : penV (pI P) (pB P) k v W0 W1) : QI' w B1 most P k v W1 := by
  obtain ⟨Y, yd, rfl, hR, hb⟩ := hv
  exact ⟨h.1, W0.heap.size, Y, yd, h.2.s, rfl, (h.2.upto).below hb, hR⟩
theorem take_snoc {P : List (Int × List Int)} {k : Nat} (h : k < P.length) : P.take (k + 1) = P.take k ++ [(pI P k, pB P k)] := by
  rw [List.take_succ_eq_append_getElem h]
  unfold pI pB
  rw [List.getD_eq_getElem?_getD, List.getElem?_eq_getElem h]
  rfl
theorem take_len {P : List (Int × List Int)} {k : Nat} (h : k < P.length) : (P.take k).length = k := by rw [List.length_take]; omega
theorem most_f {k : Nat} {most : Int} (h : ¬ (k : Int) ≥ most) : k + 1 ≤ most.toNat := by omega
theorem most_t {k : Nat} {most : Int} (h : (k : Int) ≥ most) (h1 : k ≤ most.toNat) : k = most.toNat := by omega
theorem pend_start (w : World) (most : Int) : Boxed ((w.alloc (.cells #[.int .i64 most] 3)).alloc (.cells #[.slice none 0 0] 38)) w.heap.size 3 (.int .i64 most) ∧ Boxed ((w.alloc (.cells #[.int .i64 most] 3)).alloc (.cells #[.slice none 0 0] 38)) (w.heap.size + 1) 38 (.slice none 0 0) ∧ Below w.heap.size w ((w.alloc (.cells #[.int .i64 most] 3)).alloc (.cells #[.slice none 0 0] 38)) ∧ ((w.alloc (.cells #[.int .i64 most] 3)).alloc (.cells #[.slice none 0 0] 38)).heap.size = w.heap.size + 2 := by
  refine ⟨(Boxed.new w 3 (.int .i64 most)).alloc _, ?_, below_alloc (below_alloc (Below.refl w.heap.size w) _) _, by simp⟩
  have := Boxed.new (w.alloc (.cells #[.int .i64 most] 3)) 38 (.slice none 0 0)
  rwa [World.size_alloc] at this
set_option maxRecDepth 100000 in
set_option maxHeartbeats 16000000 in
theorem pending_c {w : World} {pd : Value} {P : List (Int × List Int)} (hpd : Pends w pd P) (hP : P.length ≤ 1000000) (hlen : ∀ x ∈ P, x.2.length = 256) (most : Int) :
    Calls Try.prog 22 #[pd, .int .i64 most] w fun e w' => ∃ A c, e = .returned (.slice A (P.take most.toNat).length c) ∧ (P.take most.toNat).length ≤ c ∧ Kd.R kW 43 w' 0 (fun k => w.heap.size ≤ k) (.slice A (P.take most.toNat).length c) (P.take most.toNat) ∧ Below w.heap.size w w' := by
  have HPD := Aside0.mk hpd
  have HP := Aside0.mk hP
  have HLN := Aside0.mk hlen
  clear hpd hP hlen
  refine (callsIn_wide (n := 4)).1 ?_
  refine callsIn_of_wp_marks Try.func22 rfl trivial ?_ rfl
  simp only [Try.ntmps22, List.size_toArray, List.length_cons, List.length_nil, Nat.reduceAdd, Nat.reduceSub, Array.replicate_succ, Array.replicate_zero, List.push_toArray, List.append_toArray, List.nil_append, List.cons_append]
  gi_wp2_with fail
  obtain ⟨s1, s2, s3, s4⟩ := pend_start w most
  obtain ⟨w1, hw1⟩ : ∃ x, x = (w.alloc (.cells #[.int .i64 most] 3)).alloc (.cells #[.slice none 0 0] 38) := ⟨_, rfl⟩
  rw [← hw1] at s1 s2 s3 s4 ⊢
  clear hw1
  refine ⟨trivial, ((callsIn_wide (n := 4 - 1)).2 (HPD.out w1 s3)).mono ?_⟩
  rintro e w2 ⟨gL, rfl, hgL, hPA, hb⟩
  have X1 := Aside0.mk (show Boxed w2 w.heap.size 3 (.int .i64 most) from (hb.block _ s1.lt).trans s1)
  have X2 := Aside0.mk (show Boxed w2 (w.heap.size + 1) 38 (.slice none 0 0) from (hb.block _ s2.lt).trans s2)
  have KB := Aside0.mk (s3.trans (hb.mono s3.size))
  have SZ := Aside0.mk (show w.heap.size + 2 ≤ w2.heap.size from s4 ▸ hb.size)
  have GL := Aside0.mk (show w.heap.size + 2 ≤ gL ∧ gL < w2.heap.size from ⟨s4 ▸ hgL, by obtain ⟨v, q, _⟩ := hPA; exact q.lt⟩)
  have HST := Aside0.mk (seq89 (n := 3) (by decide) hPA (fun q => q = w.heap.size + 1 ∨ w2.heap.size ≤ q) (fun k hk hlt => by rw [s4] at hk; rintro (e | e) <;> omega) (by have := GL.out; rintro (e | e) <;> omega) HP.out HLN.out)
  clear hb hPA hgL s1 s2 s3 s4
  gi_wp2_with fail
  simp only [nil108, Result.andThen]
  gi_wp2_with fail
  refine range_v (by decide) (gf := 89) (lb := #[.pointer (some ⟨gL, 0, none⟩)]) rfl (enters_of Try.func89 (by kernel_rfl) rfl) HST.out (fun q hq => .inr hq) (fun k v W0 W1 hv => by obtain ⟨Y, yd, rfl, _, hb⟩ := hv; exact ⟨hb, rfl⟩)
    (QI w w2.heap.size most P) (QI' w w2.heap.size most P) (QIx w w2.heap.size most P) ?own ?own' ?ownx ?start (fun v => { tmps := #[pd, .int .i64 most, undef, .pointer (some ⟨w.heap.size, 0, none⟩), .slice none 0 0, .pointer (some ⟨w.heap.size + 1, 0, none⟩), (.func (.func 89) #[] #[.pointer (some ⟨gL, 0, none⟩)]), v.getD 0 undef, v.getD 1 undef, pd, (.func (.func 89) #[] #[.pointer (some ⟨gL, 0, none⟩)]), (.func (.func 89) #[] #[.pointer (some ⟨gL, 0, none⟩)]), .bool false, (.func (.func 89) #[] #[.pointer (some ⟨gL, 0, none⟩)]), v.getD 0 undef, v.getD 1 undef, undef, undef, undef, undef, undef, undef, undef, undef, undef, undef, undef], defers := [] }) qi_meet ?assign ?body ?done ?stop
  case own =>
    rintro k A B row ⟨h1, h2⟩ hg hr
    exact ⟨h1, h2.grown (Nat.le_trans (by omega) SZ.out) hg hr⟩
  case own' =>
    rintro k v W o o' ⟨h1, T, Y, yd, h2, h3, h4, h5⟩ ho hc
    have hr : ∀ r, some (w2.heap.size + 1) = some r → w2.heap.size ≤ r ∧ ∃ o : Obj, W.heap[r]? = some o ∧ o.isCells = false := fun r e => by cases e; exact ⟨Nat.le_succ _, o, ho, hc⟩
    exact ⟨h1, T, Y, yd, h2, h3, h4.grown (Nat.le_trans (by omega) SZ.out) (grownBy_putObj' _ _ _) hr, R_grown h5 (grownBy_putObj' _ _ _) hr⟩
  case ownx =>
    rintro c k A B row ⟨h1, h2⟩ hg hr
    exact ⟨h1, h2.grown (Nat.le_trans (by omega) SZ.out) hg hr⟩
  case start => exact ⟨Nat.zero_le _, X1.out, ⟨_, X2.out, Kd.R_nil _ _ _ _ _⟩, KB.out, Nat.le_refl _⟩
  case assign =>
    rintro l k v W K hk ⟨h1, T, Y, yd, h2, rfl, h4, h5⟩ hK
    clear h4 h5
    have HK := Aside0.mk hK
    clear hK
    gi_wp2_with ((rw [Oper.semAt_eq _ _ _ (fun c h => by cases h)]; go_simp; try go_bits))
    exact HK.out
  case body =>
    rintro l k v W hk ⟨h1, T, Y, yd, h2, rfl, h4, h5⟩
    obtain ⟨b3, ⟨v, b5, hR⟩, kb, hs⟩ := h4
    obtain ⟨Av, cv, rfl, hcv, _⟩ := R_own hR
    rw [take_len hk] at b5 hR
    have hc3 := b3.cell
    have hc5 := b5.cell
    have hf5 := b5.frozen
    have HK := Aside0.mk hk
    have H1 := Aside0.mk h1
    have H2 := Aside0.mk h2
    have H5 := Aside0.mk h5
    have B3 := Aside0.mk b3
    have B5 := Aside0.mk b5
    have RR := Aside0.mk hR
    have KW := Aside0.mk kb
    have HS := Aside0.mk hs
    clear hcv h2 h5 hR kb hs hk
    by_cases hmo : (k : Int) ≥ most
    · have h1b : decide ((k : Int) ≥ most) = true := decide_eq_true hmo
      have HE := Aside0.mk (most_t hmo h1)
      clear hmo h1
      gi_wp2_with (rw [Oper.semAt_eq _ _ _ (fun c h => by cases h)]; go_simp; try go_bits)
      exact ⟨KeepsOthers.refl _, rfl, by rw [← HE.out]; exact ⟨B3.out, ⟨_, B5.out, Kd.R_mono RR.out (fun q hq => hq.1)⟩, KW.out, HS.out⟩⟩
    · have h1b : decide ((k : Int) ≥ most) = false := decide_eq_false hmo
      have HM := Aside0.mk (most_f hmo)
      clear hmo h1
      gi_wp2_with (first
        | (gi_at_builtin; refine wpListIn_append_R kW (W := W) 0 (by rfl) (.tmp 20) (.tmp 24) 38 43 (.agg #[.int .i64 0, .slice none 0 0]) 32 rfl Try.underlying38 info43 rfl (by decide) (by decide) (.slice Av k cv) (P.take k) (pI P k, pB P k) [.int .i64 (pI P k), .slice Y 256 yd] (fun q => w2.heap.size ≤ q) (fun q => T ≤ q) rfl rfl (pen_make2 H5.out) (fun q hq => ⟨Nat.le_trans H2.out hq, fun e => Nat.lt_irrefl _ (Nat.lt_of_lt_of_le (RR.out.1 q e.symm).2 hq)⟩) (fun q hq => Nat.le_trans HS.out hq) (Kd.R_mono RR.out (fun q hq => hq.1)) (Nat.zero_le _) (by rw [take_len HK.out]; have := HK.out; have := HP.out; omega) ?_; intro v1 w3 hR1 hg1; obtain ⟨A1, c1, hv1e, _, _⟩ := R_own hR1; obtain ⟨n1, hn1⟩ : ∃ n1, n1 = (P.take k ++ [(pI P k, pB P k)]).length := ⟨_, rfl⟩; rw [← hn1] at hv1e; subst hv1e; have STEP := Aside0.mk (pen_step SZ.out B3.out B5.out RR.out (fun q hq => hq.1) KW.out HS.out hg1 hR1); have hc1 := STEP.out.1.cell; have hf1 := STEP.out.1.frozen; clear hR1 hg1 hc3 hc5 hf5 hn1)
        | (rw [Oper.semAt_eq _ _ _ (fun c h => by cases h)]; go_simp; try go_bits))
      exact ⟨STEP.out.2.1, STEP.out.2.2.1, HM.out, by rw [take_snoc HK.out]; exact STEP.out.2.2.2⟩
  case done =>
    rintro W ⟨h1, h4⟩ hD
    rw [List.take_length] at h4
    have hl : P.take most.toNat = P := List.take_of_length_le h1
    rw [← hl] at h4
    obtain ⟨v, b5, hR⟩ := h4.l
    obtain ⟨Av, cv, rfl, hcv, _⟩ := R_own hR
    obtain ⟨nn, hnn⟩ : ∃ nn, nn = (P.take most.toNat).length := ⟨_, rfl⟩
    rw [← hnn] at b5 hR hcv
    have HNN := Aside0.mk hnn
    clear hnn
    have hc5 := b5.cell
    have H4 := Aside0.mk h4
    have HC := Aside0.mk hcv
    have HRR := Aside0.mk (R_grown hR (grownBy_putObj' _ w2.heap.size (.deferred none)) (hgo_of hD))
    have KB2 := Aside0.mk (below_own h4.b (grownBy_putObj' _ w2.heap.size (.deferred none)) (hgo_of hD) (Nat.le_trans (by omega) SZ.out))
    have HDD := Aside0.mk hD
    clear h4 b5 hR hcv hD
    gi_wp2_with fail
    refine ⟨by simp, .inl ⟨_, _, rfl, run_takeDeferred HDD.out, ?_⟩⟩
    refine ⟨_, results_tmp rfl _ _ _, ?_⟩
    rw [← HNN.out]
    exact ⟨Av, cv, rfl, HC.out, Kd.R_mono HRR.out (fun q hq => Nat.le_trans (Nat.le_trans (Nat.le_add_right _ 2) SZ.out) hq), KB2.out⟩
  case stop =>
    rintro c k W hk ⟨rfl, h4⟩ hD
    obtain ⟨v, b5, hR⟩ := h4.l
    obtain ⟨Av, cv, rfl, hcv, _⟩ := R_own hR
    obtain ⟨nn, hnn⟩ : ∃ nn, nn = (P.take most.toNat).length := ⟨_, rfl⟩
    rw [← hnn] at b5 hR hcv
    have HNN := Aside0.mk hnn
    clear hnn
    have hc5 := b5.cell
    have H4 := Aside0.mk h4
    have HC := Aside0.mk hcv
    have HRR := Aside0.mk (R_grown hR (grownBy_putObj' _ w2.heap.size (.deferred none)) (hgo_of hD))
    have KB2 := Aside0.mk (below_own h4.b (grownBy_putObj' _ w2.heap.size (.deferred none)) (hgo_of hD) (Nat.le_trans (by omega) SZ.out))
    have HDD := Aside0.mk hD
    clear h4 b5 hR hcv hD
    gi_wp2_with fail
    refine ⟨by simp, .inl ⟨_, _, rfl, run_takeDeferred HDD.out, ?_⟩⟩
    refine ⟨_, results_tmp rfl _ _ _, ?_⟩
    rw [← HNN.out]
    exact ⟨Av, cv, rfl, HC.out, Kd.R_mono HRR.out (fun q hq => Nat.le_trans (Nat.le_trans (Nat.le_add_right _ 2) SZ.out) hq), KB2.out⟩
end Go.Proofs.Ythnadkdfgckijaa.Pure
namespace Go.Proofs.Ythnadkdfgckijaa.Pure
open Go.RowKit Go.Proofs.Ythnadkdfgckijaa Go.Proofs.Ythnadkdfgckijaa.PAll Go.Proofs.Ythnadkdfgckijaa.Mem Go.Proofs.YthnadkdfgckijaaW.PrintWords Go.Proofs.YthnadkdfgckijaaW.PrintLast Go.Proofs.YthnadkdfgckijaaW.PrintMore
set_option linter.unusedVariables false
set_option linter.unusedSimpArgs false
set_option linter.unusedSectionVars false

/-- An operation of a script. -/
structure SOp where
  do_ : Int
  blk : Int
  fill : Int
  len : Int
  n : Int
  picks : List Int
/-- Where an operation's cells stand. -/
def OpCells (W : World) (a : Addr) (o : SOp) (vp : Value) : Prop :=
  W.cell? a = some (.int .i64 o.do_) ∧ W.cell? ⟨a.block, a.off + 1, none⟩ = some (.int .i64 o.blk) ∧ W.cell? ⟨a.block, a.off + 2, none⟩ = some (.int .u8 o.fill) ∧ W.cell? ⟨a.block, a.off + 3, none⟩ = some (.int .i64 o.len) ∧ W.cell? ⟨a.block, a.off + 4, none⟩ = some (.int .i64 o.n) ∧ W.cell? ⟨a.block, a.off + 5, none⟩ = some vp
/-- A script. -/
structure OpsAt (W : World) (A : Option Addr) (n : Nat) (L : List SOp) : Prop where
  len : L.length = n
  max : n ≤ 140737488351232
  at_ : ∀ j (h : j < L.length), ∃ ad Ap cp, A = some ad ∧ OpCells W (ad.add (j * 6)) L[j] (.slice Ap L[j].picks.length cp) ∧ L[j].picks.length ≤ cp ∧ L[j].picks.length ≤ 140737488351232 ∧ Kd.C (Kd.int .u8) W Ap L[j].picks.length L[j].picks ∧ Bytes L[j].picks
theorem cell_below {w0 W : World} (hb : Below w0.heap.size w0 W) {a : Addr} {v : Value} (h : w0.cell? a = some v) : W.cell? a = some v :=
  (World.cell?_of_block (hb.block _ (World.block_lt_of_cell? w0 a h))).trans h
theorem OpCells.below {w0 W : World} (hb : Below w0.heap.size w0 W) {a : Addr} {o : SOp} {vp : Value} (h : OpCells w0 a o vp) : OpCells W a o vp :=
  ⟨cell_below hb h.1, cell_below hb h.2.1, cell_below hb h.2.2.1, cell_below hb h.2.2.2.1, cell_below hb h.2.2.2.2.1, cell_below hb h.2.2.2.2.2⟩
theorem F_arg {w : World} {A : Option Addr} {n : Nat} {l : List Int} (h : Kd.C (Kd.int .u8) w A n l) : Kd.F (Kd.int .u8) w (fun k => k < w.heap.size) A n l := fun W' hW => (Kd.heap_int .u8).C (fun k hk => hW k hk hk) h
theorem cut22 (A : Option Addr) (n c hi : Nat) (h2 : hi ≤ c) (W : World) : (Instr.slice 22 (.slice A n c) none (some (.int .i64 (hi : Int))) none).run Try.prog W = .ok (.slice A hi c) W := by
  have info29 : (Try.prog.info? 29).map (·.size) = some 6 := by kernel_rfl
  obtain ⟨i, hi0, hz⟩ := Option.map_eq_some_iff.1 info29
  have hu : Try.prog.underlying 22 = some (.slice (Try.prog.elem 22)) := by
    have : Try.prog.elem 22 = 29 := by simp [Program.elem, Try.underlying22]
    rw [this]; exact Try.underlying22
  have he : Try.prog.elem 22 = 29 := by simp [Program.elem, Try.underlying22]
  rw [run_slice_h W 22 A n c hu .i64 (hi : Int) (by omega) (by omega), he]
  have := cutP_zero A c
  unfold cutP at this
  simp [sizeOf, typeInfo, hi0, hz, sliced, Result.andThen]
  simpa using this
attribute [local go_sem high] cut22
def stepS (s : DS) (o : SOp) : DS := if o.do_ = 0 then (writeS s o.blk (blockL o.fill o.len)).2 else if o.do_ = 1 then (flushS s).2 else s
def playS (L : List SOp) : DS := L.foldl stepS (newS 4)
theorem playS_next (L : List SOp) (k : Nat) (h : k < L.length) : playS (L.take (k + 1)) = stepS (playS (L.take k)) L[k] := by
  unfold playS
  rw [List.take_add_one, List.getElem?_eq_getElem h, List.foldl_append]
  rfl
/-- A disk whose power has not gone. -/
structure Up (m : Nat) (s : DS) : Prop where
  off : s.off = false
  armed : s.armed = 0
  picks : s.picks = []
  B : s.B.length = 4
  P : s.P.length ≤ m
theorem Up.step {m : Nat} {s : DS} (h : Up m s) (o : SOp) : Up (m + 1) (stepS s o) := by
  unfold stepS
  have w1 : Up (m + 1) s := ⟨h.off, h.armed, h.picks, h.B, Nat.le_succ_of_le h.P⟩
  split
  · by_cases hp : placeS s o.blk = 0
    · by_cases hb : (blockL o.fill o.len).length = 256
      · rw [write_up hp hb h.armed]
        exact ⟨h.off, h.armed, h.picks, h.B, by simp; exact h.P⟩
      · unfold writeS
        rw [if_neg (by rw [hp]; decide), if_pos hb]
        exact w1
    · unfold writeS
      rw [if_pos hp]
      exact w1
  · split
    · rw [flush_up h.off h.armed]
      exact ⟨h.off, h.armed, h.picks, by rw [show (_ : DS).B = flushB s.B s.P from rfl, flushB_len]; exact h.B, Nat.zero_le _⟩
    · exact w1
theorem Up.play (L : List SOp) : ∀ k, k ≤ L.length → Up k (playS (L.take k))
  | 0, _ => ⟨rfl, rfl, rfl, rfl, Nat.le_refl _⟩
  | k + 1, h => by rw [playS_next L k h]; exact (Up.play L k (by omega)).step _
theorem six_cells {W : World} {g : Nat} {a b c d e f : Value} {t : TypeId} (h : W.heap[g]? = some (.cells #[a, b, c, d, e, f] t (0, 0))) : W.cell? ⟨g, 0, none⟩ = some a ∧ W.cell? ⟨g, 1, none⟩ = some b ∧ W.cell? ⟨g, 2, none⟩ = some c ∧ W.cell? ⟨g, 3, none⟩ = some d ∧ W.cell? ⟨g, 4, none⟩ = some e ∧ W.cell? ⟨g, 5, none⟩ = some f := by
  refine ⟨?_, ?_, ?_, ?_, ?_, ?_⟩ <;> (rw [blk_cell h]; rfl)
theorem pl_le {m : Nat} {s : DS} (h : Up m s) (hm : m ≤ 120) : s.P.length ≤ 1000000 := by have := h.P; omega
set_option maxRecDepth 100000 in
set_option maxHeartbeats 16000000 in
theorem played_c {w : World} {A : Option Addr} {n c : Nat} {L : List SOp} (hL : OpsAt w A n L) (hc : n ≤ c) : Calls Try.prog 14 #[.slice A n c] w fun e w' => ∃ g, e = .returned (.pointer (some ⟨g, 0, none⟩)) ∧ Dk w' g (playS (L.take 120)) (fun k => w.heap.size ≤ k) ∧ Below w.heap.size w w' := by
  obtain ⟨m, hm⟩ : ∃ m : Nat, m = min n 120 := ⟨_, rfl⟩
  have hmin : ∀ ats ty, Builtin.min_ ats ty #[.int .i64 (n : Int), .int .i64 120] = pure (.int .i64 (m : Int)) := by
    intro ats ty
    rw [min_two, min2_int]
    have : (if (120 : Int) < (n : Int) then 120 else (n : Int)) = (m : Int) := by split <;> omega
    rw [this]
    rfl
  have hmc : m ≤ c := by omega
  have LA := Aside0.mk hL
  have ML := Aside0.mk (show m ≤ L.length ∧ m ≤ 120 ∧ L.take m = L.take 120 from ⟨by have := hL.len; omega, by omega, by
    rcases Nat.le_total n 120 with h | h
    · have e : m = n := by omega
      rw [e, List.take_of_length_le (by have := hL.len; omega), List.take_of_length_le (by have := hL.len; omega)]
    · have e : m = 120 := by omega
      rw [e]⟩)
  clear hL hc hm
  go_enter Try.func14, Try.ntmps14
  go_wp2_with fail
  refine (new_ok w 4 (by decide) (by decide)).mono ?_
  rintro e w1 ⟨g, rfl, hg, hD, hb⟩
  have D1 := Aside0.mk (show Dk w1 g (playS (L.take 0)) (fun k => w.heap.size ≤ k) from ⟨_, hD, fun k q => q.1⟩)
  have K1 := Aside0.mk hb
  clear hg hD hb
  go_wp2_with fail
  have HVV := Aside0.mk (show ∀ W : World, Below w.heap.size w W → ∀ k, W.heap.size ≤ k → w.heap.size ≤ k from fun W h k q => Nat.le_trans h.size q)
  clear hmin hmc
  go_loopg [23] m (fun q v w' => ∃ (k : Nat), v = .int .i64 (k : Int) ∧ Aside0 (k + q = m) ∧ Aside0 (Dk w' g (playS (L.take k)) (fun k => w.heap.size ≤ k)) ∧ Aside0 (Below w.heap.size w w'))
  case atStart => exact ⟨0, rfl, ⟨Nat.zero_add _⟩, D1, K1⟩
  case round =>
    clear D1 K1
    obtain ⟨k, rfl, HJ, DD, KK⟩ := hrel
    by_cases hlt : k < m
    case pos =>
      have hgd := (di_t hlt).1
      have hgd2 := (di_t hlt).2
      have HN := Aside0.mk (st_n HJ.out hlt).1
      have HM := Aside0.mk (st_n HJ.out hlt).2
      have HV := Aside0.mk (stepv hlt (by have := ML.out.2.1; omega))
      obtain ⟨ad, Ap, cp, hA, hcells, hcp, hpl, hpc, hpb⟩ := LA.out.at_ k (Nat.lt_of_lt_of_le hlt ML.out.1)
      have NX := Aside0.mk (playS_next L k (Nat.lt_of_lt_of_le hlt ML.out.1))
      have UP := Aside0.mk (Up.play L k (Nat.le_of_lt (Nat.lt_of_lt_of_le hlt ML.out.1)))
      have KM := Aside0.mk (show k ≤ 120 from Nat.le_of_lt (Nat.lt_of_lt_of_le hlt ML.out.2.1))
      obtain ⟨o, ho⟩ : ∃ o, o = L[k]'(Nat.lt_of_lt_of_le hlt ML.out.1) := ⟨_, rfl⟩
      rw [← ho] at hcells NX
      obtain ⟨np, hvp⟩ : ∃ np, np = o.picks.length := ⟨_, rfl⟩
      rw [← hvp] at hcells
      obtain ⟨s, hs⟩ : ∃ s, s = playS (L.take k) := ⟨_, rfl⟩
      rw [← hs] at NX UP DD
      subst hA
      obtain ⟨q0, q1, q2, q3, q4, q5⟩ := hcells.below KK.out
      obtain ⟨o1, o2, o3, o4, o5, op⟩ := o
      simp only at q0 q1 q2 q3 q4
      clear hcp hpl hpc hpb ho hvp hs hcells HJ
      by_cases d0 : o1 = 0
      case pos =>
        have e1 : (o1 == 0) = true := by simpa using d0
        obtain ⟨⟨r, s2⟩, hws⟩ : ∃ x, x = writeS s o2 (blockL o3 o4) := ⟨_, rfl⟩
        have WS := Aside0.mk hws.symm
        have N2 := Aside0.mk (show playS (L.take (k + 1)) = s2 from by rw [NX.out]; unfold stepS; rw [if_pos d0]; simp only; rw [← hws])
        clear d0 hws
        go_upto_region 9 with fail
        obtain ⟨w5, hw5⟩ : ∃ x, x = wr.alloc (.cells #[.int .i64 o1, .int .i64 o2, .int .u8 o3, .int .i64 o4, .int .i64 o5, .slice Ap np cp] 29) := ⟨_, rfl⟩
        have hbn := (Below.refl wr.heap.size wr).alloc (Nat.le_refl _) (.cells #[.int .i64 o1, .int .i64 o2, .int .u8 o3, .int .i64 o4, .int .i64 o5, .slice Ap np cp] 29)
        have hn5 := heap_new wr (.cells #[.int .i64 o1, .int .i64 o2, .int .u8 o3, .int .i64 o4, .int .i64 o5, .slice Ap np cp] 29)
        rw [← hw5] at hbn hn5 ⊢
        have D5 := Aside0.mk (DD.out.below hbn)
        have K5 := Aside0.mk (KK.out.trans (hbn.mono KK.out.size))
        have N5 := Aside0.mk hn5
        obtain ⟨g6, hg6⟩ : ∃ x, x = wr.heap.size := ⟨_, rfl⟩
        rw [← hg6] at N5 ⊢
        clear hw5 hbn hn5 hg6 q0 q1 q2 q3 q4 q5 DD KK
        obtain ⟨q0, q1, q2, q3, q4, q5⟩ := six_cells N5.out
        go_region_law (first
          | (refine goes_ Try.func17 (by kernel_rfl) rfl #[.agg #[.int .i64 o1, .int .i64 o2, .int .u8 o3, .int .i64 o4, .int .i64 o5, .slice Ap np cp]] (by rfl) rfl rfl (by (try simp only [List.map_toArray, List.map_cons, List.map_nil]); first | done | rfl) ?_; refine (block_c _ _ _ _ _ _ _).mono ?_; rintro e wb ⟨gY, rfl, hO, hb⟩; refine ⟨_, rfl, ?_⟩; have OB := Aside0.mk (show Own wb w5.heap.size _ _ _ from hO); have BB := Aside0.mk (show Below w5.heap.size w5 wb from (below_drew (Below.refl w5.heap.size w5)).trans hb); have NB := Aside0.mk ((BB.out.block _ (blk_lt N5.out)).trans N5.out); clear hO hb q0 q1 q2 q3 q4 q5; obtain ⟨q0, q1, q2, q3, q4, q5⟩ := six_cells NB.out)
          | (refine goes_ Try.func16 (by kernel_rfl) rfl #[.pointer (some ⟨g, 0, none⟩), .int .i64 o2, .slice (some ⟨gY, 0, none⟩) (blockL o3 o4).length (blockL o3 o4).length] (by rfl) rfl rfl (by (try simp only [List.map_toArray, List.map_cons, List.map_nil]); first | done | rfl) ?_; refine (n_write D5.out BB.out (HVV.out w5 K5.out) o2 OB.out rfl (blockL_bytes _ _) (pl_le UP.out KM.out) WS.out).mono ?_; rintro e w6 ⟨rfl, hD, hf⟩; refine ⟨_, rfl, ?_⟩; have D6 := Aside0.mk hD; have K6 := Aside0.mk (hf.below (K5.out.trans (BB.out.mono K5.out.size)) (fun k q => q) (Nat.le_trans K5.out.size BB.out.size)); clear hD hf q0 q1 q2 q3 q4 q5))
        all_goals
          have DN := Aside0.mk (show Dk w6 g (playS (L.take (k + 1))) (fun k => w.heap.size ≤ k) from by rw [N2.out]; exact D6.out)
          clear NX NB OB BB D5 K5 N5 WS N2 D6
          go_wp2_with fail
          go_roundg (gk - 1)
          case measure => exact HM.out
          case rel => exact ⟨k + 1, by first | exact HV.out | rfl, HN, DN, K6⟩
      case neg =>
        have e1 : (o1 == 0) = false := by simpa using d0
        have hbn := (Below.refl wr.heap.size wr).alloc (Nat.le_refl _) (.cells #[.int .i64 o1, .int .i64 o2, .int .u8 o3, .int .i64 o4, .int .i64 o5, .slice Ap np cp] 29)
        have D5 := Aside0.mk (DD.out.below hbn)
        have K5 := Aside0.mk (KK.out.trans (hbn.mono KK.out.size))
        clear hbn DD KK
        by_cases d1 : o1 = 1
        case pos =>
          have e2 : (o1 == 1) = true := by simpa using d1
          obtain ⟨⟨r, s2⟩, hws⟩ : ∃ x, x = flushS s := ⟨_, rfl⟩
          have WS := Aside0.mk hws.symm
          have N2 := Aside0.mk (show playS (L.take (k + 1)) = s2 from by rw [NX.out]; unfold stepS; rw [if_neg d0, if_pos d1, ← hws])
          clear d0 d1 hws
          go_wp2_with fail
          refine (n_flush D5.out WS.out).mono ?_
          rintro e w6 ⟨rfl, hD, hf⟩
          have DN := Aside0.mk (show Dk w6 g (playS (L.take (k + 1))) (fun k => w.heap.size ≤ k) from by rw [N2.out]; exact hD)
          have K6 := Aside0.mk (hf.below K5.out (fun k q => q) K5.out.size)
          clear hD hf WS N2 q0 q1 q2 q3 q4 q5
          go_wp2_with fail
          go_roundg (gk - 1)
          case measure => exact HM.out
          case rel => exact ⟨k + 1, by first | exact HV.out | rfl, HN, DN, K6⟩
        case neg =>
          have e2 : (o1 == 1) = false := by simpa using d1
          have N2 := Aside0.mk (show playS (L.take (k + 1)) = s from by rw [NX.out]; unfold stepS; rw [if_neg d0, if_neg d1])
          have DN := Aside0.mk (show Dk _ g (playS (L.take (k + 1))) (fun k => w.heap.size ≤ k) from by rw [N2.out]; exact D5.out)
          clear d0 d1 N2
          go_wp2_with fail
          go_roundg (gk - 1)
          case measure => exact HM.out
          case rel => exact ⟨k + 1, by first | exact HV.out | rfl, HN, DN, K5⟩
    have hke : k = m := en_k HJ.out hlt
    have hge := (di_f hke).1
    have hge2 := (di_f hke).2
    have DE := Aside0.mk (show Dk wr g (playS (L.take 120)) (fun k => w.heap.size ≤ k) from by rw [← ML.out.2.2, ← hke]; exact DD.out)
    clear hlt hke DD HJ
    go_wp2_with fail
    go_ret
    exact ⟨_, rfl, DE.out, KK.out⟩
end Go.Proofs.Ythnadkdfgckijaa.Pure
namespace Go.Proofs.Ythnadkdfgckijaa.Pure
open Go.RowKit Go.Proofs.Ythnadkdfgckijaa Go.Proofs.Ythnadkdfgckijaa.PAll Go.Proofs.Ythnadkdfgckijaa.Mem Go.Proofs.YthnadkdfgckijaaW.PrintWords Go.Proofs.YthnadkdfgckijaaW.PrintLast Go.Proofs.YthnadkdfgckijaaW.PrintMore
set_option linter.unusedVariables false
set_option linter.unusedSimpArgs false
set_option linter.unusedSectionVars false

/-- Blocks from a to b. -/
def Rng (a b : Nat) (k : Nat) : Prop := a ≤ k ∧ k < b
theorem rng_no {a b c d : Nat} (h : b ≤ c) : ∀ k, Rng c d k → ¬ Rng a b k := fun k q z => Nat.lt_irrefl _ (Nat.lt_of_lt_of_le z.2 (Nat.le_trans h q.1))
theorem rng_on {a b c d : Nat} (h : b ≤ c) : ∀ k, Rng a b k → ¬ Rng c d k := fun k q z => Nat.lt_irrefl _ (Nat.lt_of_lt_of_le q.2 (Nat.le_trans h z.1))
theorem own_no {w : World} {base c a b : Nat} {A : Option Addr} {l : List Int} (h : Own w base A c l) (hb : b ≤ base) : ∀ g, 0 < l.length → A = some ⟨g, 0, none⟩ → ¬ Rng a b g := fun g hp hA z => Nat.lt_irrefl _ (Nat.lt_of_lt_of_le z.2 (Nat.le_trans hb (own_lt h g hp hA).1))
theorem OpsAt.below {w w' : World} {A : Option Addr} {n : Nat} {L : List SOp} (h : OpsAt w A n L) (hb : Below w.heap.size w w') : OpsAt w' A n L := by
  obtain ⟨q1, q2, q3⟩ := h
  refine ⟨q1, q2, fun j hj => ?_⟩
  obtain ⟨ad, Ap, cp, hA, hO, p1, p2, p3, p4⟩ := q3 j hj
  exact ⟨ad, Ap, cp, hA, hO.below hb, p1, p2, Kd.C_below p3 hb, p4⟩
theorem crash_up {s : DS} (h : s.off = false) (ps : List Int) : crashS s ps = (0, fallsS s ps) := by
  unfold crashS
  rw [if_neg (by rw [h]; decide)]
theorem fallB_15 (B : List (List Int)) (P : List (Int × List Int)) (n : Nat) (h : P.length = n) : fallB B (P.zip (List.replicate n 15)) = flushB B P := by
  subst h
  induction P generalizing B with
  | nil => rfl
  | cons x P ih => exact ih (reachB B x 15)
theorem falls_nil {s : DS} : (fallsS s []).B = s.B := by
  show fallB s.B (s.P.zip []) = s.B
  rw [List.zip_nil_right]
  rfl
theorem falls_none {s : DS} (h : s.P = []) (ps : List Int) : (fallsS s ps).B = s.B := by
  show fallB s.B (s.P.zip ps) = s.B
  rw [h]
  rfl
theorem eq_own {w : World} {b1 b2 n d1 d2 : Nat} {Y1 Y2 : Option Addr} {a b : List Int} (h1 : Own w b1 Y1 d1 a) (h2 : Own w b2 Y2 d2 b) (e : a = b) (hn : a.length = n) (hb : Bytes a) :
    Calls Try.prog 20 #[.slice Y1 n d1, .slice Y2 n d2] w fun ex w' => ex = .returned (.bool true) ∧ Below w.heap.size w w' := by
  subst e
  have := equal_c h1.C h2.C hn hn (hn ▸ h1.cap) (hn ▸ h2.cap) hb hb
  rw [decide_eq_true rfl] at this
  exact this
def fif (n k : Nat) : List Int := (List.range n).map (fun j => if j < k then 15 else 0)
theorem fif_len (n k : Nat) : (fif n k).length = n := by simp [fif]
theorem fif_zero (n : Nat) : fif n 0 = zer n := by
  apply List.ext_getElem?
  intro j
  unfold fif zer
  rw [List.getElem?_map, List.getElem?_replicate]
  by_cases h : j < n
  · rw [List.getElem?_range h, if_pos h]; simp
  · rw [List.getElem?_eq_none (by simp; omega), if_neg h]; rfl
theorem fif_set (n k : Nat) (h : k < n) : (fif n k).set k 15 = fif n (k + 1) := by
  apply List.ext_getElem?
  intro j
  unfold fif
  rw [List.getElem?_set, List.getElem?_map, List.getElem?_map]
  by_cases e : k = j
  · subst e
    rw [if_pos rfl, if_pos (by simp; exact h), List.getElem?_range h, Option.map_some, if_pos (Nat.lt_succ_self _)]
  · rw [if_neg e]
    by_cases hj : j < n
    · rw [List.getElem?_range hj, Option.map_some, Option.map_some]
      congr 1
      by_cases h1 : j < k
      · rw [if_pos h1, if_pos (by omega)]
      · rw [if_neg h1, if_neg (by omega)]
    · rw [List.getElem?_eq_none (by simp; omega)]; rfl
theorem fif_all (n : Nat) : fif n n = List.replicate n 15 := by
  apply List.ext_getElem?
  intro j
  unfold fif
  rw [List.getElem?_map, List.getElem?_replicate]
  by_cases h : j < n
  · rw [List.getElem?_range h, if_pos h, Option.map_some, if_pos h]
  · rw [List.getElem?_eq_none (by simp; omega), if_neg h]; rfl
theorem Up.script (L : List SOp) : Up 120 (playS (L.take 120)) := by
  by_cases h : 120 ≤ L.length
  · exact Up.play L 120 h
  · have := Up.play L L.length (Nat.le_refl _)
    rw [List.take_length] at this
    rw [List.take_of_length_le (by omega)]
    exact ⟨this.off, this.armed, this.picks, this.B, by have := this.P; omega⟩
theorem pend_big {P : List (Int × List Int)} (h : P.length ≤ 120) : P.take (1048576 : Int).toNat = P := List.take_of_length_le (by show P.length ≤ 1048576; omega)
theorem flat_1024 {B : List (List Int)} (h : BlkOk B) (hl : B.length = 4) : B.flatten.length = 1024 := by rw [flat_len h, hl]
attribute [local go_sem high] cut22
set_option maxRecDepth 100000 in
set_option maxHeartbeats 16000000 in
theorem stays_c {w : World} {A Ax : Option Addr} {n c nx cx : Nat} {L : List SOp} {ps : List Int} (hL : OpsAt w A n L) (hc : n ≤ c) (hX : Kd.C (Kd.int .u8) w Ax nx ps) (hnx : ps.length = nx) (hcx : nx ≤ cx) : Calls Try.prog 5 #[.slice A n c, .slice Ax nx cx] w fun e w' => e = .returned (.bool true) ∧ Below w.heap.size w w' := by
  obtain ⟨S, hS⟩ : ∃ S, S = playS (L.take 120) := ⟨_, rfl⟩
  have UP := Aside0.mk (show Up 120 S from hS ▸ Up.script L)
  have PL := Aside0.mk (pl_le UP.out (Nat.le_refl _))
  have LA := Aside0.mk hL
  have LC := Aside0.mk hc
  have PX := Aside0.mk (F_arg hX)
  have PN := Aside0.mk hnx
  have PC := Aside0.mk hcx
  have K := Aside0.mk (Below.refl w.heap.size w)
  have HS := Aside0.mk hS
  clear hL hc hX hnx hcx hS
  go_enter Try.func5, Try.ntmps5
  go_wp2_with fail
  refine (played_c LA.out LC.out).mono ?_
  rintro e w1 ⟨ga, rfl, hD, hb⟩
  rw [← HS.out] at hD
  replace LA := Aside0.mk (LA.out.below hb)
  replace PX := Aside0.mk (Kd.F_below PX.out hb)
  replace K := Aside0.mk (K.out.trans (hb.mono K.out.size))
  have DA := Aside0.mk (hD.mono (V' := Rng w.heap.size w1.heap.size) (fun k q hl => ⟨q, hl⟩))
  have N1 := Aside0.mk (show w.heap.size ≤ w1.heap.size from hb.size)
  clear hD hb
  go_wp2_with fail
  refine (played_c LA.out LC.out).mono ?_
  rintro e w2 ⟨gb, rfl, hD, hb⟩
  rw [← HS.out] at hD
  replace LA := Aside0.mk (LA.out.below hb)
  replace PX := Aside0.mk (Kd.F_below PX.out hb)
  replace K := Aside0.mk (K.out.trans (hb.mono K.out.size))
  replace DA := Aside0.mk (DA.out.below hb)
  have DB := Aside0.mk (hD.mono (V' := Rng w1.heap.size w2.heap.size) (fun k q hl => ⟨q, hl⟩))
  have N2 := Aside0.mk (show w1.heap.size ≤ w2.heap.size from hb.size)
  clear hD hb
  go_wp2_with fail
  refine (played_c LA.out LC.out).mono ?_
  rintro e w3 ⟨gc, rfl, hD, hb⟩
  rw [← HS.out] at hD
  replace LA := Aside0.mk (LA.out.below hb)
  replace PX := Aside0.mk (Kd.F_below PX.out hb)
  replace K := Aside0.mk (K.out.trans (hb.mono K.out.size))
  replace DA := Aside0.mk (DA.out.below hb)
  replace DB := Aside0.mk (DB.out.below hb)
  have DC := Aside0.mk (hD.mono (V' := Rng w2.heap.size w3.heap.size) (fun k q hl => ⟨q, hl⟩))
  have N3 := Aside0.mk (show w2.heap.size ≤ w3.heap.size from hb.size)
  clear hD hb
  go_wp2_with fail
  clear LA LC
  have Z := Aside0.mk (Nat.le_refl w3.heap.size)
  refine (live_c w3).mono ?_
  rintro e w4 ⟨rfl, hb⟩
  replace PX := Aside0.mk (Kd.F_below PX.out hb)
  replace K := Aside0.mk (K.out.trans (hb.mono K.out.size))
  replace DA := Aside0.mk (DA.out.below hb)
  replace DB := Aside0.mk (DB.out.below hb)
  replace DC := Aside0.mk (DC.out.below hb)
  replace Z := Aside0.mk (Nat.le_trans Z.out hb.size)
  clear hb
  go_wp2_with fail
  have BK := Aside0.mk DA.out.ok.1
  refine (n_image DA.out (m := 1024) (by rw [UP.out.B]; decide) (by rw [UP.out.B])).mono ?_
  rintro e w5 ⟨Y1, d1, rfl, hO, hb⟩
  have O1 := Aside0.mk (own_lower hO Z.out)
  replace PX := Aside0.mk (Kd.F_below PX.out hb)
  replace K := Aside0.mk (K.out.trans (hb.mono K.out.size))
  replace DA := Aside0.mk (DA.out.below hb)
  replace DB := Aside0.mk (DB.out.below hb)
  replace DC := Aside0.mk (DC.out.below hb)
  replace Z := Aside0.mk (Nat.le_trans Z.out hb.size)
  clear hO hb
  go_wp2_with fail
  have HLN := Aside0.mk (show ∀ x ∈ S.P, x.2.length = 256 from fun x hx => (DA.out.ok.2.1 x hx).2.2.1)
  obtain ⟨N, hN⟩ : ∃ N, N = S.P.length := ⟨_, rfl⟩
  have HN := Aside0.mk hN
  have hNl : N ≤ 1000000 := by rw [hN]; exact PL.out
  refine (pending_c (dk_pends DA.out PL.out) PL.out HLN.out 1048576).mono ?_
  rintro e w6 ⟨A6, c6, rfl, _, _, hb⟩
  replace PX := Aside0.mk (Kd.F_below PX.out hb)
  replace K := Aside0.mk (K.out.trans (hb.mono K.out.size))
  replace DA := Aside0.mk (DA.out.below hb)
  replace DB := Aside0.mk (DB.out.below hb)
  replace DC := Aside0.mk (DC.out.below hb)
  replace Z := Aside0.mk (Nat.le_trans Z.out hb.size)
  replace O1 := Aside0.mk (own_below O1.out hb)
  clear hb
  rw [pend_big UP.out.P, ← hN]
  clear hN
  have hmk : ∀ W : World, (Instr.makeSlice 26 (.int .i64 (N : Int)) (.int .i64 (N : Int))).run Try.prog W = .ok (.slice (some ⟨W.heap.size, 0, none⟩) N N) (W.alloc (.cells (rowOf (.int .u8 0) N) 5)) := fun W => mk26n N hNl W
  go_wp2_with fail
  obtain ⟨w7, hw7⟩ : ∃ x, x = w6.alloc (Obj.cells (rowOf (Value.int IntKind.u8 0) N) 5) := ⟨_, rfl⟩
  have OA := Aside0.mk (show Own w7 w3.heap.size (some ⟨w6.heap.size, 0, none⟩) N (fif N 0) from by rw [hw7, fif_zero]; exact own_lower (own_new hNl) Z.out)
  have hb : Below w6.heap.size w6 w7 := by rw [hw7]; exact (Below.refl w6.heap.size w6).alloc (Nat.le_refl _) _
  have G1 := Aside0.mk (fun gq hp hq => Nat.ne_of_lt (own_lt O1.out gq hp hq).2)
  have ZA := Aside0.mk Z.out
  have W0A := Aside0.mk K.out.size
  have NL := Aside0.mk hNl
  replace PX := Aside0.mk (Kd.F_below PX.out hb)
  replace K := Aside0.mk (K.out.trans (hb.mono K.out.size))
  replace DA := Aside0.mk (DA.out.below hb)
  replace DB := Aside0.mk (DB.out.below hb)
  replace DC := Aside0.mk (DC.out.below hb)
  replace Z := Aside0.mk (Nat.le_trans Z.out hb.size)
  replace O1 := Aside0.mk (own_below O1.out hb)
  rw [← hw7]
  clear hw7 hb hmk hNl
  obtain ⟨gA, hgA⟩ : ∃ x, x = w6.heap.size := ⟨_, rfl⟩
  rw [← hgA] at OA G1 ZA W0A
  rw [← hgA]
  clear hgA
  go_loopg [40] N (fun q v w' => ∃ (k : Nat), v = .int .i64 (k : Int) ∧ Aside0 (k + q = N) ∧ Aside0 (Own w' w3.heap.size (some ⟨gA, 0, none⟩) N (fif N k)) ∧ Aside0 (Fr (· = gA) w7 w'))
  case atStart => exact ⟨0, rfl, ⟨Nat.zero_add _⟩, OA, ⟨Fr.refl _ _⟩⟩
  case round =>
    clear OA
    obtain ⟨k, rfl, HJ, JJ, FF⟩ := hrel
    by_cases hlt : k < N
    case pos =>
      have hgd : decide ((k : Int) < (N : Int)) = true := (di_t hlt).1
      have hgd2 : decide (k < N) = true := (di_t hlt).2
      have HN1 := Aside0.mk (st_n HJ.out hlt).1
      have HM := Aside0.mk (st_n HJ.out hlt).2
      have HV := Aside0.mk (stepv hlt (big_n NL.out))
      obtain ⟨c0, f0⟩ := own_cell JJ.out (show k < (fif N k).length by rw [fif_len]; exact hlt)
      have JN := Aside0.mk (own_set JJ.out (show k < (fif N k).length by rw [fif_len]; exact hlt) 15)
      rw [fif_set N k hlt] at JN
      have FN := Aside0.mk (FF.out.set (p := ⟨gA, k, none⟩) rfl (.int .u8 15))
      go_wp2_with fail
      go_roundg (gk - 1)
      case measure => exact HM.out
      case rel => exact ⟨k + 1, by first | exact HV.out | rfl, HN1, JN, FN⟩
    have hke : k = N := en_k HJ.out hlt
    clear hlt
    have hf := FF.out
    subst hke
    obtain ⟨hgd, hgd2⟩ := di_f (rfl : k = k)
    rw [fif_all] at JJ
    replace PX := Aside0.mk (F_fr PX.out hf (fun q hq e => by subst e; exact Nat.lt_irrefl _ (Nat.lt_of_lt_of_le hq W0A.out)))
    replace K := Aside0.mk (hf.below K.out (fun q e => by subst e; exact W0A.out) K.out.size)
    replace DA := Aside0.mk (DA.out.fr hf (fun q hq e => by subst e; exact Nat.lt_irrefl _ (Nat.lt_of_lt_of_le hq.2 (Nat.le_trans (Nat.le_trans N2.out N3.out) ZA.out))))
    replace DB := Aside0.mk (DB.out.fr hf (fun q hq e => by subst e; exact Nat.lt_irrefl _ (Nat.lt_of_lt_of_le hq.2 (Nat.le_trans N3.out ZA.out))))
    replace DC := Aside0.mk (DC.out.fr hf (fun q hq e => by subst e; exact Nat.lt_irrefl _ (Nat.lt_of_lt_of_le hq.2 ZA.out)))
    replace Z := Aside0.mk (Nat.le_trans Z.out hf.size)
    replace O1 := Aside0.mk (own_fr O1.out hf (fun q hp hq e => G1.out q hp hq e))
    clear hf FF
    have OA := Aside0.mk (show Own wr w3.heap.size (some ⟨gA, 0, none⟩) k (List.replicate k 15) from JJ.out)
    clear JJ
    go_wp2_with fail
    obtain ⟨Sa, hSa, ea⟩ : ∃ Sa, crashS S [] = (0, Sa) ∧ Sa.B = S.B := ⟨_, crash_up UP.out.off [], falls_nil⟩
    refine (n_crash DA.out (Kd.F_nil (Kd.int .u8) wr (fun _ => False)) rfl (Nat.le_refl 0) (fun q hq => hq.elim) hSa).mono ?_
    rintro e w9 ⟨rfl, hD, hf⟩
    replace PX := Aside0.mk (F_fr PX.out hf (fun q hq z => Nat.lt_irrefl _ (Nat.lt_of_lt_of_le hq z.1)))
    replace K := Aside0.mk (hf.below K.out (fun q hq => hq.1) K.out.size)
    replace DB := Aside0.mk (DB.out.fr hf (rng_no (Nat.le_refl _)))
    replace DC := Aside0.mk (DC.out.fr hf (rng_no N2.out))
    replace Z := Aside0.mk (Nat.le_trans Z.out hf.size)
    replace O1 := Aside0.mk (own_fr O1.out hf (own_no O1.out (Nat.le_trans N2.out N3.out)))
    replace OA := Aside0.mk (own_fr OA.out hf (own_no OA.out (Nat.le_trans N2.out N3.out)))
    replace DA := Aside0.mk hD
    clear hD hf
    go_wp2_with fail
    refine (n_image DA.out (m := 1024) (by rw [ea, UP.out.B]; decide) (by rw [ea, UP.out.B])).mono ?_
    rintro e w10 ⟨Y2, d2, rfl, hO, hb⟩
    rw [ea] at hO
    have O2 := Aside0.mk (own_lower hO Z.out)
    replace PX := Aside0.mk (Kd.F_below PX.out hb)
    replace K := Aside0.mk (K.out.trans (hb.mono K.out.size))
    replace DA := Aside0.mk (DA.out.below hb)
    replace DB := Aside0.mk (DB.out.below hb)
    replace DC := Aside0.mk (DC.out.below hb)
    replace Z := Aside0.mk (Nat.le_trans Z.out hb.size)
    replace O1 := Aside0.mk (own_below O1.out hb)
    replace OA := Aside0.mk (own_below OA.out hb)
    clear hO hb
    go_wp2_with fail
    refine (eq_own O2.out O1.out rfl (flat_1024 BK.out (by first | exact UP.out.B | exact FB4.out)) (flat_bytes BK.out)).mono ?_
    rintro e w11 ⟨rfl, hb⟩
    replace PX := Aside0.mk (Kd.F_below PX.out hb)
    replace K := Aside0.mk (K.out.trans (hb.mono K.out.size))
    replace DA := Aside0.mk (DA.out.below hb)
    replace DB := Aside0.mk (DB.out.below hb)
    replace DC := Aside0.mk (DC.out.below hb)
    replace Z := Aside0.mk (Nat.le_trans Z.out hb.size)
    replace O1 := Aside0.mk (own_below O1.out hb)
    replace OA := Aside0.mk (own_below OA.out hb)
    replace O2 := Aside0.mk (own_below O2.out hb)
    clear hb
    go_wp2_with fail
    clear O2 O1 DA
    clear ea hSa
    obtain ⟨T, hT, t1, t2, t3⟩ : ∃ T, flushS S = (0, T) ∧ T.off = false ∧ T.P = [] ∧ T.B = flushB S.B S.P := ⟨_, flush_up UP.out.off UP.out.armed, UP.out.off, rfl, rfl⟩
    refine (n_flush DB.out hT).mono ?_
    rintro e w12 ⟨rfl, hD, hf⟩
    replace PX := Aside0.mk (F_fr PX.out hf (fun q hq z => Nat.lt_irrefl _ (Nat.lt_of_lt_of_le hq (Nat.le_trans N1.out z.1))))
    replace K := Aside0.mk (hf.below K.out (fun q hq => Nat.le_trans N1.out hq.1) K.out.size)
    replace DC := Aside0.mk (DC.out.fr hf (rng_no (Nat.le_refl _)))
    replace Z := Aside0.mk (Nat.le_trans Z.out hf.size)
    replace OA := Aside0.mk (own_fr OA.out hf (own_no OA.out N3.out))
    replace DB := Aside0.mk hD
    have FB4 := Aside0.mk (show (flushB S.B S.P).length = 4 from by rw [flushB_len]; exact UP.out.B)
    have FK := Aside0.mk (show BlkOk (flushB S.B S.P) from t3 ▸ hD.ok.1)
    clear hD hf
    go_wp2_with fail
    refine (n_image DB.out (m := 1024) (by rw [t3, FB4.out]; decide) (by rw [t3, FB4.out])).mono ?_
    rintro e w13 ⟨Y3, d3, rfl, hO, hb⟩
    rw [t3] at hO
    have O3 := Aside0.mk (own_lower hO Z.out)
    replace PX := Aside0.mk (Kd.F_below PX.out hb)
    replace K := Aside0.mk (K.out.trans (hb.mono K.out.size))
    replace DB := Aside0.mk (DB.out.below hb)
    replace DC := Aside0.mk (DC.out.below hb)
    replace Z := Aside0.mk (Nat.le_trans Z.out hb.size)
    replace OA := Aside0.mk (own_below OA.out hb)
    clear hO hb
    go_wp2_with fail
    obtain ⟨Tb, hTb, eb⟩ : ∃ Tb, crashS T ps = (0, Tb) ∧ Tb.B = flushB S.B S.P := ⟨_, crash_up t1 ps, (falls_none t2 ps).trans t3⟩
    refine (n_crash DB.out (show Kd.F (Kd.int .u8) _ _ Ax nx ps from PX.out) PN.out PC.out (fun q hq z => Nat.lt_irrefl _ (Nat.lt_of_lt_of_le hq (Nat.le_trans N1.out z.1))) hTb).mono ?_
    rintro e w14 ⟨rfl, hD, hf⟩
    replace PX := Aside0.mk (F_fr PX.out hf (fun q hq z => Nat.lt_irrefl _ (Nat.lt_of_lt_of_le hq (Nat.le_trans N1.out z.1))))
    replace K := Aside0.mk (hf.below K.out (fun q hq => Nat.le_trans N1.out hq.1) K.out.size)
    replace DC := Aside0.mk (DC.out.fr hf (rng_no (Nat.le_refl _)))
    replace Z := Aside0.mk (Nat.le_trans Z.out hf.size)
    replace OA := Aside0.mk (own_fr OA.out hf (own_no OA.out N3.out))
    replace O3 := Aside0.mk (own_fr O3.out hf (own_no O3.out N3.out))
    replace DB := Aside0.mk hD
    clear hD hf
    go_wp2_with fail
    refine (n_image DB.out (m := 1024) (by rw [eb, FB4.out]; decide) (by rw [eb, FB4.out])).mono ?_
    rintro e w15 ⟨Y4, d4, rfl, hO, hb⟩
    rw [eb] at hO
    have O4 := Aside0.mk (own_lower hO Z.out)
    replace PX := Aside0.mk (Kd.F_below PX.out hb)
    replace K := Aside0.mk (K.out.trans (hb.mono K.out.size))
    replace DB := Aside0.mk (DB.out.below hb)
    replace DC := Aside0.mk (DC.out.below hb)
    replace Z := Aside0.mk (Nat.le_trans Z.out hb.size)
    replace OA := Aside0.mk (own_below OA.out hb)
    replace O3 := Aside0.mk (own_below O3.out hb)
    clear hO hb
    go_wp2_with fail
    refine (eq_own O4.out O3.out rfl (flat_1024 FK.out (by first | exact UP.out.B | exact FB4.out)) (flat_bytes FK.out)).mono ?_
    rintro e w16 ⟨rfl, hb⟩
    replace PX := Aside0.mk (Kd.F_below PX.out hb)
    replace K := Aside0.mk (K.out.trans (hb.mono K.out.size))
    replace DB := Aside0.mk (DB.out.below hb)
    replace DC := Aside0.mk (DC.out.below hb)
    replace Z := Aside0.mk (Nat.le_trans Z.out hb.size)
    replace OA := Aside0.mk (own_below OA.out hb)
    replace O3 := Aside0.mk (own_below O3.out hb)
    replace O4 := Aside0.mk (own_below O4.out hb)
    clear hb
    go_wp2_with fail
    clear O4 DB PX
    clear eb hTb t1 t2 t3 hT
    obtain ⟨Tc, hTc, ec⟩ : ∃ Tc, crashS S (List.replicate k 15) = (0, Tc) ∧ Tc.B = flushB S.B S.P := ⟨_, crash_up UP.out.off _, fallB_15 _ _ _ HN.out.symm⟩
    have AF := Aside0.mk (own_F OA.out)
    refine (n_crash DC.out (show Kd.F (Kd.int .u8) _ _ _ k _ from by have := AF.out; rwa [List.length_replicate] at this) (List.length_replicate ..) (Nat.le_refl _) (show ∀ q, OwnF (some ⟨gA, 0, none⟩) (List.replicate k 15) q → ¬ Rng w2.heap.size w3.heap.size q from fun q hq z => own_no OA.out (Nat.le_refl _) q hq.1 hq.2 z) hTc).mono ?_
    rintro e w17 ⟨rfl, hD, hf⟩
    replace K := Aside0.mk (hf.below K.out (fun q hq => Nat.le_trans (Nat.le_trans N1.out N2.out) hq.1) K.out.size)
    replace Z := Aside0.mk (Nat.le_trans Z.out hf.size)
    replace OA := Aside0.mk (own_fr OA.out hf (own_no OA.out (Nat.le_refl _)))
    replace O3 := Aside0.mk (own_fr O3.out hf (own_no O3.out (Nat.le_refl _)))
    replace DC := Aside0.mk hD
    clear hD hf
    go_wp2_with fail
    refine (n_image DC.out (m := 1024) (by rw [ec, FB4.out]; decide) (by rw [ec, FB4.out])).mono ?_
    rintro e w18 ⟨Y5, d5, rfl, hO, hb⟩
    rw [ec] at hO
    have O5 := Aside0.mk (own_lower hO Z.out)
    replace K := Aside0.mk (K.out.trans (hb.mono K.out.size))
    replace DC := Aside0.mk (DC.out.below hb)
    replace Z := Aside0.mk (Nat.le_trans Z.out hb.size)
    replace OA := Aside0.mk (own_below OA.out hb)
    replace O3 := Aside0.mk (own_below O3.out hb)
    clear hO hb
    go_wp2_with fail
    refine (eq_own O5.out O3.out rfl (flat_1024 FK.out (by first | exact UP.out.B | exact FB4.out)) (flat_bytes FK.out)).mono ?_
    rintro e w19 ⟨rfl, hb⟩
    replace K := Aside0.mk (K.out.trans (hb.mono K.out.size))
    replace DC := Aside0.mk (DC.out.below hb)
    replace Z := Aside0.mk (Nat.le_trans Z.out hb.size)
    replace OA := Aside0.mk (own_below OA.out hb)
    replace O3 := Aside0.mk (own_below O3.out hb)
    replace O5 := Aside0.mk (own_below O5.out hb)
    clear hb
    go_wp2_with fail
    go_ret
    exact ⟨rfl, K.out⟩
end Go.Proofs.Ythnadkdfgckijaa.Pure
namespace Go.Proofs.Ythnadkdfgckijaa.Pure
open Go.RowKit Go.Proofs.Ythnadkdfgckijaa Go.Proofs.Ythnadkdfgckijaa.PAll Go.Proofs.Ythnadkdfgckijaa.Mem Go.Proofs.YthnadkdfgckijaaW.PrintWords Go.Proofs.YthnadkdfgckijaaW.PrintLast Go.Proofs.YthnadkdfgckijaaW.PrintMore
set_option linter.unusedVariables false
set_option linter.unusedSimpArgs false

theorem sec_get' (b : List Int) (k i : Nat) : (sec b k)[i]? = if i < 64 then b[64 * k + i]? else none := by
  unfold sec
  rw [List.getElem?_take]
  split
  · rw [List.getElem?_drop]
  · rfl
theorem flat_get {B : List (List Int)} (h : BlkOk B) {I j : Nat} (hI : I < B.length) (hj : j < 256) : B.flatten[256 * I + j]? = (B.getD I [])[j]? := by
  induction B generalizing I with
  | nil => simp at hI
  | cons a B ih =>
    have ha := (h a (List.mem_cons_self ..)).1
    rw [List.flatten_cons]
    cases I with
    | zero =>
      rw [List.getElem?_append_left (by omega)]
      simp
    | succ I =>
      rw [List.getElem?_append_right (by omega), show 256 * (I + 1) + j - a.length = 256 * I + j by omega, ih (fun b hb => h b (List.mem_cons_of_mem _ hb)) (by simpa using hI)]
      simp
theorem sec_flat {B : List (List Int)} (h : BlkOk B) {k : Nat} (hk : k / 4 < B.length) : sec B.flatten k = sec (B.getD (k / 4) []) (k % 4) := by
  apply List.ext_getElem?
  intro i
  rw [sec_get', sec_get']
  by_cases hi : i < 64
  · rw [if_pos hi, if_pos hi, show 64 * k + i = 256 * (k / 4) + (64 * (k % 4) + i) by omega, flat_get h hk (by omega)]
  · rw [if_neg hi, if_neg hi]
theorem sec_mix {b r : List Int} (hb : b.length = 256) (hr : r.length = 256) (pick : Int) {j : Nat} (hj : j < 4) : sec (mix r b pick) j = if bitB pick j = true then sec b j else sec r j := by
  apply List.ext_getElem?
  intro i
  by_cases hi : i < 64
  · rw [sec_get', if_pos hi, mix_get hb hr pick (64 * j + i) (by omega), show (64 * j + i) / 64 = j by omega]
    split <;> rw [sec_get', if_pos hi]
  · rw [sec_get', if_neg hi]
    split <;> rw [sec_get', if_neg hi]
theorem reach_getD {B : List (List Int)} {x : Int × List Int} {pick : Int} {I : Nat} (hI : I < B.length) : (reachB B x pick).getD I [] = if x.1.toNat = I then mix (B.getD I []) x.2 pick else B.getD I [] := by
  unfold reachB
  rw [List.getD_eq_getElem?_getD, List.getElem?_set]
  by_cases e : x.1.toNat = I
  · rw [if_pos e, if_pos e, if_pos (e ▸ hI), Option.getD_some, e]
  · rw [if_neg e, if_neg e, ← List.getD_eq_getElem?_getD]
theorem fall_sec : ∀ (L : List ((Int × List Int) × Int)) (B : List (List Int)), BlkOk B → (∀ x ∈ L, 0 ≤ x.1.1 ∧ x.1.1 < (B.length : Int) ∧ x.1.2.length = 256 ∧ Bytes x.1.2) → ∀ (I j : Nat), I < B.length → j < 4 →
    sec ((fallB B L).getD I []) j = sec (B.getD I []) j ∨ ∃ i, ∃ h : i < L.length, (L[i]).1.1 = (I : Int) ∧ sec ((fallB B L).getD I []) j = sec (L[i]).1.2 j
  | [], B, hB, hL, I, j, hI, hj => .inl rfl
  | x :: L, B, hB, hL, I, j, hI, hj => by
    have hx := hL x (List.mem_cons_self ..)
    have hlen := reachB_len B x.1 x.2
    rcases fall_sec L (reachB B x.1 x.2) (reachB_ok hB hx x.2) (fun y hy => by rw [hlen]; exact hL y (List.mem_cons_of_mem _ hy)) I j (by rw [hlen]; exact hI) hj with h | ⟨i, hi, h1, h2⟩
    · rw [reach_getD hI] at h
      have e : fallB B (x :: L) = fallB (reachB B x.1 x.2) L := rfl
      rw [e]
      by_cases hxI : x.1.1.toNat = I
      · rw [if_pos hxI, sec_mix hx.2.2.1 (getD_ok hB hI).1 x.2 hj] at h
        split at h
        · exact .inr ⟨0, by simp, by show x.1.1 = _; omega, h⟩
        · exact .inl h
      · rw [if_neg hxI] at h
        exact .inl h
    · exact .inr ⟨i + 1, by simpa using hi, h1, h2⟩
/-- What the law's inner loop finds. -/
def hitS (P : List (Int × List Int)) (np k : Nat) (sN : List Int) (i : Nat) : Bool := decide (pI P i = ((k / 4 : Nat) : Int) ∧ i < np ∧ sN = sec (pB P i) (k % 4))
def okF (P : List (Int × List Int)) (np k : Nat) (sN sW : List Int) : Nat → Bool
  | 0 => decide (sN = sW)
  | i + 1 => okF P np k sN sW i || hitS P np k sN i
theorem okF_mono (P : List (Int × List Int)) (np k : Nat) (sN sW : List Int) {i : Nat} (h : okF P np k sN sW i = true) : ∀ d, okF P np k sN sW (i + d) = true
  | 0 => h
  | d + 1 => by
    show (okF P np k sN sW (i + d) || hitS P np k sN (i + d)) = true
    rw [okF_mono P np k sN sW h d, Bool.true_or]
theorem okF_end {P : List (Int × List Int)} {B : List (List Int)} {ps : List Int} (hB : BlkOk B) (hP : PenOk B.length P) {k : Nat} (hk : k / 4 < B.length) (hF : BlkOk (fallB B (P.zip ps))) : okF P ps.length k (sec (fallB B (P.zip ps)).flatten k) (sec B.flatten k) P.length = true := by
  rw [sec_flat hB hk, sec_flat hF (by rw [fallB_len]; exact hk)]
  have hmem : ∀ x ∈ P.zip ps, 0 ≤ x.1.1 ∧ x.1.1 < (B.length : Int) ∧ x.1.2.length = 256 ∧ Bytes x.1.2 := fun x hx => hP x.1 (List.of_mem_zip hx).1
  rcases fall_sec (P.zip ps) B hB hmem (k / 4) (k % 4) hk (Nat.mod_lt _ (by decide)) with h | ⟨i, hi, h1, h2⟩
  · have := okF_mono P ps.length k (sec ((fallB B (P.zip ps)).getD (k / 4) []) (k % 4)) (sec (B.getD (k / 4) []) (k % 4)) (i := 0) (decide_eq_true h) P.length
    rwa [Nat.zero_add] at this
  · rw [List.length_zip] at hi
    rw [List.getElem_zip] at h1 h2
    have hiP : i < P.length := by omega
    have e : P.getD i (0, []) = P[i] := by rw [List.getD_eq_getElem?_getD, List.getElem?_eq_getElem hiP]; rfl
    have hit : hitS P ps.length k (sec ((fallB B (P.zip ps)).getD (k / 4) []) (k % 4)) i = true := decide_eq_true ⟨by unfold pI; rw [e]; exact h1, by omega, by unfold pB; rw [e]; exact h2⟩
    have h3 : okF P ps.length k (sec ((fallB B (P.zip ps)).getD (k / 4) []) (k % 4)) (sec (B.getD (k / 4) []) (k % 4)) (i + 1) = true := by
      show (_ || hitS _ _ _ _ i) = true
      rw [hit, Bool.or_true]
    have := okF_mono _ _ _ _ _ h3 (P.length - (i + 1))
    rwa [show i + 1 + (P.length - (i + 1)) = P.length by omega] at this
/-- A part of a row, as it is read. -/
theorem C_sec {w : World} {A : Option Addr} {c n k : Nat} {l : List Int} (h : Kd.C (Kd.int .u8) w A n l) (hc : n ≤ c) (hk : 64 * k + 64 ≤ n) : Kd.C (Kd.int .u8) w (cutP A c (64 * k)) (sec l k).length (sec l k) := by
  have hn : l.length = n := h.1
  have hs : (sec l k).length = 64 := by unfold sec; rw [List.length_take, List.length_drop]; omega
  obtain ⟨ad, hA, hcell⟩ := h.2.2 (by omega)
  subst hA
  have e : cutP (some ad) c (64 * k) = some (ad.add (64 * k * 1)) := by
    unfold cutP
    rw [if_neg (by omega)]
    rfl
  rw [e]
  refine ⟨rfl, by omega, fun _ => ⟨_, rfl, fun j p hj => ?_⟩⟩
  rw [sec_get'] at hj
  by_cases hj64 : j < 64
  · rw [if_pos hj64] at hj
    obtain ⟨cs, c1, c2, c3⟩ := hcell (64 * k + j) p hj
    refine ⟨cs, c1, c2, fun i u hu => ?_⟩
    have := c3 i u hu
    rw [show (ad.add (64 * k * 1)).add (j * (Kd.int .u8).sz + i) = ad.add ((64 * k + j) * (Kd.int .u8).sz + i) from ?_]
    · exact this
    · show (ad.add (64 * k * 1)).add (j * 1 + i) = ad.add ((64 * k + j) * 1 + i)
      rw [add_add]
      congr 1
      omega
  · rw [if_neg hj64] at hj
    cases hj
theorem sec_l {l : List Int} {k n : Nat} (h : l.length = n) (hk : 64 * k + 64 ≤ n) : (sec l k).length = 64 := by unfold sec; rw [List.length_take, List.length_drop]; omega
theorem sec_bytes {l : List Int} (h : Bytes l) (k : Nat) : Bytes (sec l k) := fun x hx => h x (List.mem_of_mem_drop (List.mem_of_mem_take hx))
theorem sec_val (A : Option Addr) (c k : Nat) (h : 64 * k + 64 ≤ c) : Value.slice (Option.map (fun x => x.add (k * 64)) A) ((k + 1) * 64 - k * 64) (c - k * 64) = .slice (cutP A c (64 * k)) 64 (c - 64 * k) := by
  have e : k * 64 = 64 * k := Nat.mul_comm ..
  unfold cutP
  rw [if_neg (by omega), e, show (k + 1) * 64 - 64 * k = 64 by omega, Nat.mul_one]
attribute [local go_sem high] cutLH
theorem sec_mul {k : Nat} (h : k < 16) : wrap64 ((k : Int) * 64) = ((64 * k : Nat) : Int) ∧ wrap64 ((k : Int) + 1) = ((k + 1 : Nat) : Int) ∧ wrap64 (((k + 1 : Nat) : Int) * 64) = ((64 * k + 64 : Nat) : Int) := by
  refine ⟨?_, ?_, ?_⟩ <;> (rw [w64id (by omega) (by omega)]; omega)
set_option maxRecDepth 100000 in
theorem sector_c (w : World) (A : Option Addr) (n c k : Nat) (hk : k < 16) (h : 64 * k + 64 ≤ c) : Calls Try.prog 24 #[.slice A n c, .int .i64 (k : Int)] w fun e w' => e = .returned (.slice (cutP A c (64 * k)) 64 (c - 64 * k)) ∧ w' = w := by
  obtain ⟨q1, q2, q3⟩ := sec_mul hk
  have q2' : wrap64 ((k : Int) + 1) = (k : Int) + 1 := by rw [q2]; rfl
  have q3' : wrap64 (((k : Int) + 1) * 64) = ((64 * k + 64 : Nat) : Int) := q3
  have e1 : 64 * k + 64 - 64 * k = 64 := by omega
  have e2 : 64 * k ≤ 64 * k + 64 := by omega
  have hs := cutLH A n c (64 * k) (64 * k + 64) e2 h
  rw [e1] at hs
  clear q2 q3 e1 e2
  go_enter Try.func24, Try.ntmps24
  go_wp2_with fail
  go_ret
  refine ⟨?_, rfl⟩
  show Ending.returned (.slice (Option.map (fun x => x.add (k * 64)) A) ((k + 1) * 64 - k * 64) (c - k * 64)) = _
  exact congrArg Ending.returned (sec_val A c k h)
end Go.Proofs.Ythnadkdfgckijaa.Pure
namespace Go.Proofs.Ythnadkdfgckijaa.Pure
open Go.RowKit Go.Proofs.Ythnadkdfgckijaa Go.Proofs.Ythnadkdfgckijaa.PAll Go.Proofs.Ythnadkdfgckijaa.Mem Go.Proofs.YthnadkdfgckijaaW.PrintWords Go.Proofs.YthnadkdfgckijaaW.PrintLast Go.Proofs.YthnadkdfgckijaaW.PrintMore
set_option linter.unusedVariables false
set_option linter.unusedSimpArgs false
set_option linter.unusedSectionVars false

theorem equal_q {w : World} {A0 A1 : Option Addr} {c0 c1 n0 n1 : Nat} {a b : List Int} (h0 : Kd.C (Kd.int .u8) w A0 a.length a) (h1 : Kd.C (Kd.int .u8) w A1 b.length b) (e0 : a.length = n0) (e1 : b.length = n1) (k0 : n0 ≤ c0) (k1 : n1 ≤ c1) (ha : Bytes a) (hb : Bytes b) :
    Calls Try.prog 20 #[.slice A0 n0 c0, .slice A1 n1 c1] w fun e w' => e = .returned (.bool (decide (a = b))) ∧ ∃ m, w' = w.drewN m := by
  subst e0 e1
  refine (bytes_Equal.calls A0 c0 a A1 c1 b _ w h0 k0 h1 k1 rfl).mono ?_
  rintro e w' ⟨rfl, hd⟩
  obtain ⟨m, hm⟩ := hd.out
  exact ⟨by rw [str_eq ha hb], m, hm⟩
theorem cap_sec {n c k : Nat} (h : n ≤ c) (hk : 64 * k + 64 ≤ n) : 64 * k + 64 ≤ c ∧ 64 ≤ c - 64 * k := by omega
theorem k_16 {k : Nat} (h : k < 16) : 64 * k + 64 ≤ 1024 ∧ k / 4 < 4 ∧ k % 4 < 16 ∧ 64 * (k % 4) + 64 ≤ 256 ∧ ((k : Int) / 4 = ((k / 4 : Nat) : Int)) ∧ ((k : Int) % 4 = ((k % 4 : Nat) : Int)) := by omega
theorem len_ne {n : Nat} (h : n ≤ 120) : n ≤ 1000000 := by omega
/-- A write that is pending, as it is read. -/
theorem pen_read {w : World} {U : Nat → Prop} {A : Option Addr} {P : List (Int × List Int)} (h : Kd.F kW w U A P.length P) (hl : ∀ x ∈ P, x.2.length = 256) {i : Nat} (hi : i < P.length) :
    ∃ ad Ab cb, A = some ad ∧ w.cell? (ad.add (i * 2)) = some (.int .i64 (pI P i)) ∧ w.cell? ⟨(ad.add (i * 2)).block, (ad.add (i * 2)).off + 1, none⟩ = some (.slice Ab 256 cb) ∧ 256 ≤ cb ∧ Kd.F (Kd.int .u8) w U Ab 256 (pB P i) ∧ (pB P i).length = 256 := by
  obtain ⟨ad, Ab, cb, a1, a2, a3, a4, a5⟩ := pen_at h hi
  have hll := hl _ (List.getElem_mem hi)
  have e : P.getD i (0, []) = P[i] := by rw [List.getD_eq_getElem?_getD, List.getElem?_eq_getElem hi]; rfl
  unfold pI pB
  rw [e]
  rw [hll] at a3 a4 a5
  exact ⟨ad, Ab, cb, a1, a2, a3, a4, a5, hll⟩
theorem pB_bytes {n : Nat} {P : List (Int × List Int)} (h : PenOk n P) {i : Nat} (hi : i < P.length) : Bytes (pB P i) := by
  unfold pB
  rw [List.getD_eq_getElem?_getD, List.getElem?_eq_getElem hi]
  exact (h _ (List.getElem_mem hi)).2.2.2
theorem box43 (w : World) (a b : Value) : (w.alloc (.cells #[a, b] 43)).cell? ⟨w.heap.size, 0, none⟩ = some a ∧ (w.alloc (.cells #[a, b] 43)).cell? ⟨w.heap.size, 1, none⟩ = some b := two_cells (heap_new w _)
theorem nlt_f {k n : Nat} (h : ¬ k < n) : decide ((k : Int) < (n : Int)) = false ∧ decide (k < n) = false := ⟨decide_eq_false (by omega), decide_eq_false h⟩
@[irreducible] def q4 (k : Nat) : Int := ((k / 4 : Nat) : Int)
@[irreducible] def r4 (k : Nat) : Int := ((k % 4 : Nat) : Int)
theorem q4_eq (k : Nat) : q4 k = ((k / 4 : Nat) : Int) := by unfold q4; rfl
theorem r4_eq (k : Nat) : r4 k = ((k % 4 : Nat) : Int) := by unfold r4; rfl
theorem wrap_i64 (x : Int) (h0 : -9223372036854775808 ≤ x) (h1 : x ≤ 9223372036854775807) : IntKind.i64.wrap x = x := by
  simp [IntKind.wrap, IntKind.min, IntKind.bits, IntKind.signed]
  split <;> omega
theorem wrap_q {k : Nat} (h : k < 16) : IntKind.i64.wrap ((k : Int) / 4) = q4 k := by rw [wrap_i64 _ (by omega) (by omega), q4_eq]; omega
theorem mod_q {k : Nat} (h : k < 16) : Int.tmod (k : Int) 4 = r4 k := by rw [r4_eq, Int.tmod_eq_emod_of_nonneg (by omega)]; omega
theorem sector_r (w : World) (A : Option Addr) (n c k : Nat) (h : 64 * (k % 4) + 64 ≤ c) : Calls Try.prog 24 #[.slice A n c, .int .i64 (r4 k)] w fun e w' => e = .returned (.slice (cutP A c (64 * (k % 4))) 64 (c - 64 * (k % 4))) ∧ w' = w := by
  rw [r4_eq]
  exact sector_c w A n c (k % 4) (by omega) h
attribute [local go_sem high] cut22
set_option maxRecDepth 100000 in
set_option maxHeartbeats 16000000 in
theorem sectors_c {w : World} {A Ax : Option Addr} {n c nx cx : Nat} {L : List SOp} {ps : List Int} (hL : OpsAt w A n L) (hc : n ≤ c) (hX : Kd.C (Kd.int .u8) w Ax nx ps) (hnx : ps.length = nx) (hcx : nx ≤ cx) : Calls Try.prog 4 #[.slice A n c, .slice Ax nx cx] w fun e w' => e = .returned (.bool true) ∧ Below w.heap.size w w' := by
  obtain ⟨S, hS⟩ : ∃ S, S = playS (L.take 120) := ⟨_, rfl⟩
  have UP := Aside0.mk (show Up 120 S from hS ▸ Up.script L)
  have PL := Aside0.mk (pl_le UP.out (Nat.le_refl _))
  have LA := Aside0.mk hL
  have LC := Aside0.mk hc
  have PX := Aside0.mk (F_arg hX)
  have PN := Aside0.mk hnx
  have PC := Aside0.mk hcx
  have K := Aside0.mk (Below.refl w.heap.size w)
  have HS := Aside0.mk hS
  clear hL hc hX hnx hcx hS
  go_enter Try.func4, Try.ntmps4
  go_wp2_with fail
  refine (played_c LA.out LC.out).mono ?_
  rintro e w1 ⟨ga, rfl, hD, hb⟩
  rw [← HS.out] at hD
  replace PX := Aside0.mk (Kd.F_below PX.out hb)
  replace K := Aside0.mk (K.out.trans (hb.mono K.out.size))
  have DA := Aside0.mk (hD.mono (V' := Rng w.heap.size w1.heap.size) (fun k q hl => ⟨q, hl⟩))
  have N1 := Aside0.mk (show w.heap.size ≤ w1.heap.size from hb.size)
  clear hD hb LA LC
  have Z := Aside0.mk (Nat.le_refl w1.heap.size)
  go_wp2_with fail
  refine (live_c w1).mono ?_
  rintro e w2 ⟨rfl, hb⟩
  replace PX := Aside0.mk (Kd.F_below PX.out hb)
  replace K := Aside0.mk (K.out.trans (hb.mono K.out.size))
  replace DA := Aside0.mk (DA.out.below hb)
  replace Z := Aside0.mk (Nat.le_trans Z.out hb.size)
  clear hb
  go_wp2_with fail
  have BK := Aside0.mk DA.out.ok.1
  have HPN := Aside0.mk DA.out.ok.2.1
  have HLN := Aside0.mk (show ∀ x ∈ S.P, x.2.length = 256 from fun x hx => (DA.out.ok.2.1 x hx).2.2.1)
  refine (n_image DA.out (m := 1024) (by rw [UP.out.B]; decide) (by rw [UP.out.B])).mono ?_
  rintro e w3 ⟨Yw, dw, rfl, hO, hb⟩
  have OW := Aside0.mk (own_lower hO Z.out)
  replace PX := Aside0.mk (Kd.F_below PX.out hb)
  replace K := Aside0.mk (K.out.trans (hb.mono K.out.size))
  replace DA := Aside0.mk (DA.out.below hb)
  replace Z := Aside0.mk (Nat.le_trans Z.out hb.size)
  clear hO hb
  go_wp2_with fail
  obtain ⟨N, hN⟩ : ∃ N, N = S.P.length := ⟨_, rfl⟩
  have HN := Aside0.mk hN
  have NL := Aside0.mk (show N ≤ 1000000 from by rw [hN]; exact PL.out)
  have W31 := Aside0.mk Z.out
  refine (pending_c (dk_pends DA.out PL.out) PL.out HLN.out 1048576).mono ?_
  rintro e w4 ⟨Ap, cp, rfl, hcp, hR, hb⟩
  rw [pend_big UP.out.P, ← hN] at hR hcp
  replace PX := Aside0.mk (Kd.F_below PX.out hb)
  replace K := Aside0.mk (K.out.trans (hb.mono K.out.size))
  replace DA := Aside0.mk (DA.out.below hb)
  replace Z := Aside0.mk (Nat.le_trans Z.out hb.size)
  replace OW := Aside0.mk (own_below OW.out hb)
  have ROW := Aside0.mk (Kd.R_mono hR (ok' := fun k => w1.heap.size ≤ k) (fun k hk => Nat.le_trans W31.out hk))
  rw [pend_big UP.out.P, ← hN]
  clear hb hN hR hcp
  go_wp2_with fail
  obtain ⟨T, hT, eT⟩ : ∃ T, crashS S ps = (0, T) ∧ T.B = fallB S.B (S.P.zip ps) := ⟨_, crash_up UP.out.off ps, rfl⟩
  refine (n_crash DA.out (show Kd.F (Kd.int .u8) _ _ Ax nx ps from PX.out) PN.out PC.out (fun q hq z => Nat.lt_irrefl _ (Nat.lt_of_lt_of_le hq z.1)) hT).mono ?_
  rintro e w5 ⟨rfl, hD, hf⟩
  replace PX := Aside0.mk (F_fr PX.out hf (fun q hq z => Nat.lt_irrefl _ (Nat.lt_of_lt_of_le hq z.1)))
  replace K := Aside0.mk (hf.below K.out (fun q hq => hq.1) K.out.size)
  replace Z := Aside0.mk (Nat.le_trans Z.out hf.size)
  replace OW := Aside0.mk (own_fr OW.out hf (own_no OW.out (Nat.le_refl _)))
  replace ROW := Aside0.mk (Kd.R_step ROW.out (fun k hk hlt => hf.block k hlt ((fun q hq z => Nat.lt_irrefl _ (Nat.lt_of_lt_of_le z.2 hq)) k hk)))
  replace DA := Aside0.mk hD
  have FBL := Aside0.mk (show (fallB S.B (S.P.zip ps)).length = 4 from by rw [fallB_len]; exact UP.out.B)
  have FBK := Aside0.mk (show BlkOk (fallB S.B (S.P.zip ps)) from eT ▸ hD.ok.1)
  clear hD hf
  go_wp2_with fail
  refine (n_image DA.out (m := 1024) (by rw [eT, FBL.out]; decide) (by rw [eT, FBL.out])).mono ?_
  rintro e w6 ⟨Yn, dn, rfl, hO, hb⟩
  rw [eT] at hO
  have ON := Aside0.mk (own_lower hO Z.out)
  replace PX := Aside0.mk (Kd.F_below PX.out hb)
  replace K := Aside0.mk (K.out.trans (hb.mono K.out.size))
  replace DA := Aside0.mk (DA.out.below hb)
  replace Z := Aside0.mk (Nat.le_trans Z.out hb.size)
  replace OW := Aside0.mk (own_below OW.out hb)
  replace ROW := Aside0.mk (Kd.R_below ROW.out hb)
  clear hO hb eT hT DA
  go_wp2_with fail
  have PF := Aside0.mk (Kd.R_F ROW.out)
  obtain ⟨lN, hlN⟩ : ∃ l, l = (fallB S.B (S.P.zip ps)).flatten := ⟨_, rfl⟩
  obtain ⟨lW, hlW⟩ : ∃ l, l = S.B.flatten := ⟨_, rfl⟩
  have LN := Aside0.mk (show lN.length = 1024 ∧ Bytes lN from by rw [hlN]; exact ⟨flat_1024 FBK.out FBL.out, flat_bytes FBK.out⟩)
  have LW := Aside0.mk (show lW.length = 1024 ∧ Bytes lW from by rw [hlW]; exact ⟨flat_1024 BK.out UP.out.B, flat_bytes BK.out⟩)
  have END := Aside0.mk (show ∀ k, k < 16 → okF S.P nx k (sec lN k) (sec lW k) N = true from fun k hk => by rw [hlN, hlW, HN.out, ← PN.out]; exact okF_end BK.out HPN.out (by rw [UP.out.B]; exact (k_16 hk).2.1) FBK.out)
  rw [← hlN] at ON
  rw [← hlW] at OW
  clear hlN hlW
  have B0 := Aside0.mk (Below.refl w6.heap.size w6)
  go_loopg [41] 16 (fun q v w' => ∃ (k : Nat), v = .int .i64 (k : Int) ∧ Aside0 (k + q = 16) ∧ Aside0 (Below w6.heap.size w6 w'))
  case atStart => exact ⟨0, rfl, ⟨Nat.zero_add _⟩, B0⟩
  case round =>
    clear B0
    obtain ⟨k, rfl, HJ, BB⟩ := hrel
    obtain ⟨gK, hgK⟩ : ∃ x : Nat, x = gk := ⟨_, rfl⟩
    subst hgK
    by_cases hlt : k < 16
    case pos =>
      have hgd : decide ((k : Int) < 16) = true := (di_t hlt).1
      have hgd2 : decide (k < 16) = true := (di_t hlt).2
      have HN1 := Aside0.mk (st_n HJ.out hlt).1
      have HM := Aside0.mk (st_n HJ.out hlt).2
      have HV := Aside0.mk (stepv hlt (by decide))
      have K16 := Aside0.mk (k_16 hlt)
      have HLT := Aside0.mk hlt
      have CN := Aside0.mk (cap_sec (LN.out.1 ▸ ON.out.cap) K16.out.1)
      have CW := Aside0.mk (cap_sec (LW.out.1 ▸ OW.out.cap) K16.out.1)
      clear hlt
      go_wp2_with fail
      refine (sector_c wr Yn 1024 dn k HLT.out CN.out.1).mono ?_
      rintro e w' ⟨rfl, hw⟩
      rw [hw]
      clear hw w'
      go_wp2_with fail
      refine (sector_c wr Yw 1024 dw k HLT.out CW.out.1).mono ?_
      rintro e w' ⟨rfl, hw⟩
      rw [hw]
      clear hw w'
      go_wp2_with fail
      have on := (own_below ON.out BB.out).C
      have ow := (own_below OW.out BB.out).C
      refine (equal_q (C_sec on ON.out.cap (by rw [LN.out.1]; exact K16.out.1)) (C_sec ow OW.out.cap (by rw [LW.out.1]; exact K16.out.1)) (sec_l LN.out.1 K16.out.1) (sec_l LW.out.1 K16.out.1) CN.out.2 CW.out.2 (sec_bytes LN.out.2 k) (sec_bytes LW.out.2 k)).mono ?_
      rintro e w7 ⟨rfl, m7, hm7⟩
      have B7 := Aside0.mk (show Below w6.heap.size w6 w7 from by rw [hm7]; exact BB.out.trans ((pw_below_drewN (Below.refl _ _) m7).mono BB.out.size))
      obtain ⟨b0, hb0⟩ : ∃ b, b = decide (sec lN k = sec lW k) := ⟨_, rfl⟩
      rw [← hb0]
      have OK0 := Aside0.mk (show okF S.P nx k (sec lN k) (sec lW k) 0 = b0 from hb0.symm)
      clear hm7 hb0 on ow BB
      go_wp2_with fail
      go_loopg [10, 53] N (fun q v10 v53 w' => ∃ (i : Nat) (b : Bool), v10 = .bool b ∧ v53 = .int .i64 (i : Int) ∧ Aside0 (i + q = N) ∧ Aside0 (okF S.P nx k (sec lN k) (sec lW k) i = b) ∧ Aside0 (Below w6.heap.size w6 w'))
      case atStart => exact ⟨0, b0, rfl, rfl, ⟨Nat.zero_add _⟩, OK0, B7⟩
      case round =>
        clear OK0 B7
        obtain ⟨i, b, rfl, rfl, HI, OK, BB⟩ := hrel
        by_cases hlt : i < N
        case pos =>
          have hgd : decide ((i : Int) < (N : Int)) = true := (di_t hlt).1
          have hgd2 : decide (i < N) = true := (di_t hlt).2
          have HI1 := Aside0.mk (st_n HI.out hlt).1
          have HIM := Aside0.mk (st_n HI.out hlt).2
          have HIV := Aside0.mk (stepv hlt (big_n NL.out))
          have HILT := Aside0.mk hlt
          obtain ⟨ad, Ab, cb, hAp, q0, q1, q2, q3, q4⟩ := pen_read (Kd.F_below (show Kd.F kW w6 _ Ap S.P.length S.P from HN.out ▸ PF.out) BB.out) HLN.out (show i < S.P.length from HN.out ▸ hlt)
          have XC := Aside0.mk q2
          have XF := Aside0.mk q3
          have XL := Aside0.mk q4
          have BA := Aside0.mk ((Below.refl wr.heap.size wr).alloc (Nat.le_refl _) (.cells #[.int .i64 (pI S.P i), .slice Ab 256 cb] 43))
          have BN := Aside0.mk (BB.out.trans (BA.out.mono BB.out.size))
          obtain ⟨x0, x1⟩ := box43 wr (.int .i64 (pI S.P i)) (.slice Ab 256 cb)
          have T00 := ROW
          clear T00
          clear q2 q3 q4
          subst hAp
          cases b
          case true =>
            go_wp2_with fail
            go_quiet (fail)
            go_wp2_with fail
            go_roundg (gk - 1)
            case measure => exact HIM.out
            case rel => exact ⟨i + 1, true, rfl, (by first | exact HIV.out | rfl), HI1, ⟨okF_mono _ _ _ _ _ OK.out 1⟩, ⟨BN.out.trans ((pw_below_drewN (Below.refl _ _) nq).mono BN.out.size)⟩⟩
          case false =>
            have hquo := wrap_q HLT.out
            have hrem := mod_q HLT.out
            by_cases hI : pI S.P i = ((k / 4 : Nat) : Int)
            case neg =>
              have e1 : (pI S.P i == q4 k) = false := by rw [q4_eq]; simpa using hI
              have HH := Aside0.mk (show okF S.P nx k (sec lN k) (sec lW k) (i + 1) = false from by
                show (okF S.P nx k (sec lN k) (sec lW k) i || hitS S.P nx k (sec lN k) i) = false
                rw [OK.out, Bool.false_or]
                exact decide_eq_false (fun q => hI q.1))
              clear hI
              go_wp2_with fail
              go_quiet (fail)
              go_wp2_with fail
              go_roundg (gk - 1)
              case measure => exact HIM.out
              case rel => exact ⟨i + 1, false, rfl, (by first | exact HIV.out | rfl), HI1, HH, ⟨BN.out.trans ((pw_below_drewN (Below.refl _ _) nq).mono BN.out.size)⟩⟩
            case pos =>
              have e1 : (pI S.P i == q4 k) = true := by rw [q4_eq]; simpa using hI
              by_cases hnx : i < nx
              case neg =>
                obtain ⟨hd, hd2⟩ := nlt_f hnx
                have HH := Aside0.mk (show okF S.P nx k (sec lN k) (sec lW k) (i + 1) = false from by
                  show (okF S.P nx k (sec lN k) (sec lW k) i || hitS S.P nx k (sec lN k) i) = false
                  rw [OK.out, Bool.false_or]
                  exact decide_eq_false (fun q => hnx q.2.1))
                clear hI hnx
                go_wp2_with fail
                go_quiet (fail)
                go_wp2_with fail
                go_roundg (gk - 1)
                case measure => exact HIM.out
                case rel => exact ⟨i + 1, false, rfl, (by first | exact HIV.out | rfl), HI1, HH, ⟨BN.out.trans ((pw_below_drewN (Below.refl _ _) nq).mono BN.out.size)⟩⟩
              case pos =>
                obtain ⟨hd, hd2⟩ := di_t hnx
                obtain ⟨b1, hb1⟩ : ∃ b, b = decide (sec lN k = sec (pB S.P i) (k % 4)) := ⟨_, rfl⟩
                have HH := Aside0.mk (show okF S.P nx k (sec lN k) (sec lW k) (i + 1) = b1 from by
                  show (okF S.P nx k (sec lN k) (sec lW k) i || hitS S.P nx k (sec lN k) i) = b1
                  rw [OK.out, Bool.false_or, hb1]
                  exact decide_eq_decide.2 ⟨fun q => q.2.2, fun q => ⟨hI, hnx, q⟩⟩)
                have XB := Aside0.mk (show Bytes (pB S.P i) from pB_bytes HPN.out (HN.out ▸ HILT.out))
                have CX := Aside0.mk (cap_sec XC.out K16.out.2.2.2.1)
                have EQ := Aside0.mk (show ∀ m, Calls Try.prog 20 #[.slice (cutP Yn dn (64 * k)) 64 (dn - 64 * k), .slice (cutP Ab cb (64 * (k % 4))) 64 (cb - 64 * (k % 4))] ((wr.alloc (.cells #[.int .i64 (pI S.P i), .slice Ab 256 cb] 43)).drewN m) fun e w' => e = .returned (.bool b1) ∧ ∃ q, w' = ((wr.alloc (.cells #[.int .i64 (pI S.P i), .slice Ab 256 cb] 43)).drewN m).drewN q from fun m => by
                  rw [hb1]
                  exact equal_q (C_sec (Kd.C_drewN (own_below ON.out BN.out).C m) ON.out.cap (by rw [LN.out.1]; exact K16.out.1)) (C_sec (Kd.C_drewN (Kd.F_now (Kd.F_below XF.out BA.out)) m) XC.out K16.out.2.2.2.1) (sec_l LN.out.1 K16.out.1) (sec_l XL.out K16.out.2.2.2.1) CN.out.2 CX.out.2 (sec_bytes LN.out.2 k) (sec_bytes XB.out _))
                clear hI hnx hb1
                go_wp2_with fail
                go_quiet (first
                  | (go_at_call_of 24 (Value.slice Yn 1024 dn); exact Calls.quiet_of_same (sector_c _ Yn 1024 dn k HLT.out CN.out.1))
                  | (go_at_call_of 24 (Value.slice Ab 256 cb); exact Calls.quiet_of_same (sector_r _ Ab 256 cb k CX.out.1))
                  | (go_at_call 20; exact Calls.quiet_of (EQ.out _)))
                go_wp2_with fail
                go_roundg (gk - 1)
                case measure => exact HIM.out
                case rel => exact ⟨i + 1, b1, rfl, (by first | exact HIV.out | rfl), HI1, HH, ⟨BN.out.trans ((pw_below_drewN (Below.refl _ _) nq).mono BN.out.size)⟩⟩
        have hie : i = N := en_k HI.out hlt
        clear hlt
        subst hie
        obtain ⟨hgd, hgd2⟩ := di_f (rfl : i = i)
        have hbt : b = true := OK.out.symm.trans (END.out k HLT.out)
        subst hbt
        clear OK
        go_wp2_with fail
        go_roundg (gK - 1)
        case measure => exact HM.out
        case rel => exact ⟨k + 1, by first | exact HV.out | rfl, HN1, BB⟩
    have hke : k = 16 := en_k HJ.out hlt
    subst hke
    have hge : decide (((16 : Nat) : Int) < 16) = false := by decide
    clear hlt
    go_wp2_with fail
    go_ret
    exact ⟨rfl, K.out.trans (BB.out.mono K.out.size)⟩
end Go.Proofs.Ythnadkdfgckijaa.Pure
