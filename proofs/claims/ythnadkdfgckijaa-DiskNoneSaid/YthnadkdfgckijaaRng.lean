/- A range over an iterator that makes the values it hands on as it goes: the laws for both sides. -/
import Derived.Test.YthnadkdfgckijaaFr
import Derived.Test.YthnadkdfgckijaaWKept
import Derived.RangeFuncFrom
namespace Go.Proofs.Ythnadkdfgckijaa.Pure
open Go.RowKit Go.Proofs.Ythnadkdfgckijaa.Mem Go.Proofs.YthnadkdfgckijaaW.PrintWords Go.Proofs.YthnadkdfgckijaaW.PrintLast Go.Proofs.YthnadkdfgckijaaW.PrintMore
set_option linter.unusedVariables false
set_option linter.unusedSimpArgs false

/-- What an iterator does that makes its values as it goes: V k v W0 W1 says what the values v of round k are, where W0 is the world ahead of the round and W1 the one at the yield. -/
def SeqV (n : Nat) (P : Program) (gf : Nat) (lb : Array Value) (V : Nat → Array Value → World → World → Prop) (S : Nat → Prop) (N : Nat) (w : World) : Prop :=
  ∀ (lo : Nat) (J Jx : Nat → World → Prop) (W : World), Kept w W S →
    (∀ (k : Nat) (v : Array Value) (W0 W1 : World), k < N → J k W0 → V k v W0 W1 → YieldAt Fence.wide (n - 1) P lo v W1 fun e W' => ∃ b, e = .returned (.bool b) ∧ ((b = true ∧ J (k + 1) W' ∧ Kept W0 W' S) ∨ (b = false ∧ Jx (k + 1) W'))) →
    J 0 W → CallsIn Fence.wide n P gf (#[.func (.yield lo) #[] #[]] ++ lb) W fun e W' => (∃ v, e = .returned v) ∧ (J N W' ∨ ∃ k, k ≤ N ∧ Jx k W')

section
variable {P : Program} {fn : FuncId} {tmps : Array Value} {ps : Array Tmp} {assign body : Code} {D : Nat}
/-- A loop's record. -/
def recV (fn : FuncId) (tmps : Array Value) (ps : Array Tmp) (assign body : Code) (D : Nat) (st : LoopState) (pe : Option Code) : Loop := { state := st, pending := pe, fn, tmps, params := ps, assign, body, defers := D }
/-- The loop stands ready; it was left with a jump. -/
def Ready (r : LoopState → Option Code → Loop) (D : Nat) (W : World) : Prop := W.heap[D + 1]? = some (.loop (r .ready none)) ∧ W.heap[D]? = some (.deferred (some []))
def Left (r : LoopState → Option Code → Loop) (D : Nat) (c : Code) (W : World) : Prop := W.heap[D + 1]? = some (.loop (r .done (some c))) ∧ W.heap[D]? = some (.deferred (some []))
theorem lt_of_some {W : World} {k : Nat} {o : Obj} (h : W.heap[k]? = some o) : k < W.heap.size := (Array.getElem?_eq_some_iff.1 h).1
/-- A round's end: the record says how it went. -/
theorem end_round {W W3 : World} {B : Obj} (hB : W.heap[D + 1]? = some (.loop (recV fn tmps ps assign body D .busy none))) (hD : W.heap[D]? = some (.deferred (some []))) (hk : KeepsOthers W W3) (jump : Option Code) :
    (Instr.endRound (D + 1) jump).run P W3 = .ok (.bool jump.isNone) (W3.putObj (D + 1) (.loop (recV fn tmps ps assign body D (if jump.isNone then .ready else .done) jump))) ∧
    W3.heap[D + 1]? = some (.loop (recV fn tmps ps assign body D .busy none)) ∧
    (W3.putObj (D + 1) (.loop (recV fn tmps ps assign body D (if jump.isNone then .ready else .done) jump))).heap[D + 1]? = some (.loop (recV fn tmps ps assign body D (if jump.isNone then .ready else .done) jump)) ∧
    (W3.putObj (D + 1) (.loop (recV fn tmps ps assign body D (if jump.isNone then .ready else .done) jump))).heap[D]? = some (.deferred (some [])) := by
  have q1 := hk.same _ _ hB rfl
  have q2 := hk.same _ _ hD rfl
  exact ⟨run_endRound jump q1, q1, World.putObj_heap_same (lt_of_some q1), (World.putObj_heap_other (by omega)).trans q2⟩
end
theorem kept_put {W : World} {S : Nat → Prop} {l : Nat} (o : Obj) (hl : S l) : Kept W (W.putObj l o) S := Kept.of_grown (grownBy_putObj' W l o) (Kept.refl W _) (fun q e => by cases e; exact .inl hl)
/-- One round of a loop, as the iterator's call of yield meets it. -/
theorem round_v {n : Nat} {P : Program} {fn : FuncId} {tmps : Array Value} {ps : Array Tmp} {assign body : Code} {D B : Nat} {S : Nat → Prop} (hfn : Fence.wide.fn fn) (hS : S (D + 1)) (hBD : B ≤ D)
    {I : World → World → Prop} {Y : World → Prop} {Yx : Code → World → Prop} {v : Array Value} {a1 : Act} {W : World} (hv : v.size = ps.size) (hr : Ready (recV fn tmps ps assign body D) D W)
    (hYo : ∀ (W : World) (o o' : Obj), Y W → W.heap[D + 1]? = some o → o.isCells = false → Y (W.putObj (D + 1) o')) (hYxo : ∀ (c : Code) (W : World) (o o' : Obj), Yx c W → W.heap[D + 1]? = some o → o.isCells = false → Yx c (W.putObj (D + 1) o'))
    (hassign : ∀ (K : Act → World → Prop), K a1 W → assign.wpIn (Fence.wide.inRound (D + 1)) n P (Exit.then K (fun _ _ _ => False)) { tmps := (ps.zip v).foldl (fun t (p, v) => t.setIfInBounds p v) tmps, defers := [] } W)
    (hbody : body.wpIn (Fence.wide.inRound (D + 1)) n P (ownPostK (α := Unit) (fun X Z => Kept X Z S) (fun _ => Y) (fun c _ => Yx c) [] (W.putObj (D + 1) (.loop (recV fn tmps ps assign body D .busy none)))) a1 (W.putObj (D + 1) (.loop (recV fn tmps ps assign body D .busy none)))) :
    YieldAt Fence.wide n P (D + 1) v W fun e W' => ∃ b, e = .returned (.bool b) ∧ ((b = true ∧ (Y W' ∧ Ready (recV fn tmps ps assign body D) D W') ∧ Kept W W' S) ∨ (b = false ∧ ∃ c, Yx c W' ∧ Left (recV fn tmps ps assign body D) D c W')) := by
  obtain ⟨hl, hd⟩ := hr
  refine ⟨fn, _, assign, body, run_yield (r := recV fn tmps ps assign body D .ready none) hl hv, roundIn_of_wpIn hfn (hassign _ ⟨_, run_beginRound (r := recV fn tmps ps assign body D .ready none) hl rfl, ?_⟩)⟩
  have b1 : (W.putObj (D + 1) (.loop (recV fn tmps ps assign body D .busy none))).heap[D + 1]? = some (.loop (recV fn tmps ps assign body D .busy none)) := World.putObj_heap_same (lt_of_some hl)
  have b2 : (W.putObj (D + 1) (.loop (recV fn tmps ps assign body D .busy none))).heap[D]? = some (.deferred (some [])) := (World.putObj_heap_other (by omega)).trans hd
  have b3 : Kept W (W.putObj (D + 1) (.loop (recV fn tmps ps assign body D .busy none))) S := kept_put _ hS
  refine wpIn_mono hbody ?_
  rintro e a3 W3 hp
  cases e with
  | normal =>
    obtain ⟨h1, h2, h3⟩ := hp
    obtain ⟨r1, r2, r3, r4⟩ := end_round (P := P) (B := .deferred none) b1 b2 h1 none
    exact ⟨_, _, r1, true, rfl, .inl ⟨rfl, ⟨hYo _ _ _ h3 r2 rfl, r3, r4⟩, (b3.then_ h2 (fun _ h => .inl h)).then_ (kept_put _ hS) (fun _ h => .inl h)⟩⟩
  | ret =>
    obtain ⟨h1, h3⟩ := hp
    obtain ⟨r1, r2, r3, r4⟩ := end_round (P := P) (B := .deferred none) b1 b2 h1 (some .ret)
    exact ⟨_, _, r1, false, rfl, .inr ⟨rfl, _, hYxo _ _ _ _ h3 r2 rfl, r3, r4⟩⟩
  | exit id =>
    obtain ⟨h1, h3⟩ := hp
    obtain ⟨r1, r2, r3, r4⟩ := end_round (P := P) (B := .deferred none) b1 b2 h1 (some (.exit id))
    exact ⟨_, _, r1, false, rfl, .inr ⟨rfl, _, hYxo _ _ _ _ h3 r2 rfl, r3, r4⟩⟩
  | goto t =>
    obtain ⟨h1, h3⟩ := hp
    obtain ⟨r1, r2, r3, r4⟩ := end_round (P := P) (B := .deferred none) b1 b2 h1 (some (.goto t))
    exact ⟨_, _, r1, false, rfl, .inr ⟨rfl, _, hYxo _ _ _ _ h3 r2 rfl, r3, r4⟩⟩
  | panic ch => exact hp.elim
  | outgrown => exact hp.elim
/-- The range over such an iterator. -/
theorem range_v {n : Nat} {P : Program} {g : Operand} {ps : Array Tmp} {assign body : Code} {Q : Exit → Act → World → Prop} {a : Act} {w : World} (h1 : 1 ≤ n) {gf : Nat} {lb : Array Value} (hg : a.eval g = .func (.func gf) #[] lb)
    (eg : ∀ args w, (callFunc gf args).run P w = .ok (.enter gf args) w) {V : Nat → Array Value → World → World → Prop} {S : Nat → Prop} {N : Nat} (hseq : SeqV (n - 1) P gf lb V S N w) (hS : ∀ q, w.heap.size ≤ q → S q)
    (hV : ∀ k v W0 W1, V k v W0 W1 → Below W0.heap.size W0 W1 ∧ v.size = ps.size)
    (I : Nat → World → Prop) (I' : Nat → Array Value → World → Prop) (Ix : Code → Nat → World → Prop) (hI : OwnFrom w.heap.size I) (hI' : ∀ k v (W : World) (o o' : Obj), I' k v W → W.heap[w.heap.size + 1]? = some o → o.isCells = false → I' k v (W.putObj (w.heap.size + 1) o')) (hIx : ∀ c, OwnFrom w.heap.size (Ix c))
    (h0 : I 0 w) (a1 : Array Value → Act) (hmeet : ∀ k v W0 W1, k < N → I k W0 → V k v W0 W1 → I' k v W1)
    (hassign : ∀ (l k : Nat) (v : Array Value) (W : World) (K : Act → World → Prop), k < N → I' k v W → K (a1 v) W → assign.wpIn (Fence.wide.inRound l) (n - 1 - 1) P (Exit.then K (fun _ _ _ => False)) { tmps := (ps.zip v).foldl (fun t (p, v) => t.setIfInBounds p v) a.tmps, defers := [] } W)
    (hbody : ∀ (l k : Nat) (v : Array Value) (W : World), k < N → I' k v W → body.wpIn (Fence.wide.inRound l) (n - 1 - 1) P (ownPostK (α := Unit) (fun X Z => Kept X Z S) (fun _ => I (k + 1)) (fun c _ => Ix c (k + 1)) [] W) (a1 v) W)
    (hdone : ∀ (W : World), I N W → W.heap[w.heap.size]? = some (.deferred (some [])) → Q .normal { a with defers := { target := .collected w.heap.size, args := #[] } :: a.defers } W)
    (hstop : ∀ (c : Code) (k : Nat) (W : World), k ≤ N → Ix c k W → W.heap[w.heap.size]? = some (.deferred (some [])) → c.wpIn Fence.wide n P Q { a with defers := { target := .collected w.heap.size, args := #[] } :: a.defers } W) :
    (Code.rangeFunc g ps assign body).wpIn Fence.wide n P Q a w := by
  refine wpIn_rangeFunc ?_
  intro fn hfn
  have hsz : ((w.alloc (.deferred (some []))).alloc (.loop (recV fn a.tmps ps assign body w.heap.size .ready none))).heap.size = w.heap.size + 2 := by simp
  refine ⟨w.heap.size + 1, [{ target := .collected w.heap.size, args := #[] }], (w.alloc (.deferred (some []))).alloc (.loop (recV fn a.tmps ps assign body w.heap.size .ready none)), { target := .fn (.func gf) lb, args := #[.func (.yield (w.heap.size + 1)) #[] #[]] }, ((w.alloc (.deferred (some []))).alloc (.loop (recV fn a.tmps ps assign body w.heap.size .ready none))), gf,
    #[.func (.yield (w.heap.size + 1)) #[] #[]] ++ lb, ((w.alloc (.deferred (some []))).alloc (.loop (recV fn a.tmps ps assign body w.heap.size .ready none))), run_enterLoop_outer _ _ _ _ _, by simp only [resolve, hg]; simp [go_sem], fun f' hf' => trivial, by simp [invoke, go_sem, eg], fun _ => h1, ?_⟩
  have hL : ((w.alloc (.deferred (some []))).alloc (.loop (recV fn a.tmps ps assign body w.heap.size .ready none))).heap[w.heap.size + 1]? = some (.loop (recV fn a.tmps ps assign body w.heap.size .ready none)) := by
    have := World.alloc_heap_new (w.alloc (.deferred (some []))) (.loop (recV fn a.tmps ps assign body w.heap.size .ready none)); rwa [World.size_alloc] at this
  have hD : ((w.alloc (.deferred (some []))).alloc (.loop (recV fn a.tmps ps assign body w.heap.size .ready none))).heap[w.heap.size]? = some (.deferred (some [])) := (Below.heap_alloc _ _ _ (by simp)).trans (World.alloc_heap_new w _)
  have hK : Kept w ((w.alloc (.deferred (some []))).alloc (.loop (recV fn a.tmps ps assign body w.heap.size .ready none))) S := Kept.of_below (((Below.refl _ w).alloc (Nat.le_refl _) _).alloc (by simp) _) S
  refine (hseq (w.heap.size + 1) (fun k W => I k W ∧ Ready (recV fn a.tmps ps assign body w.heap.size) w.heap.size W) (fun k W => ∃ c, Ix c k W ∧ Left (recV fn a.tmps ps assign body w.heap.size) w.heap.size c W) _ hK ?_ ⟨hI.alloc _ (hI.alloc _ h0), hL, hD⟩).mono ?_
  · rintro k v W0 W1 hk ⟨hi, hl, hd⟩ hv
    obtain ⟨hb, hs⟩ := hV k v W0 W1 hv
    have hr : Ready (recV fn a.tmps ps assign body w.heap.size) w.heap.size W1 := ⟨(hb.block _ (lt_of_some hl)).trans hl, (hb.block _ (lt_of_some hd)).trans hd⟩
    have hi' := hmeet k v W0 W1 hk hi hv
    obtain ⟨f1, t1, s1, b1, y1, y2⟩ := round_v (n := n - 1 - 1) (P := P) (B := w.heap.size) (S := S) hfn (hS _ (Nat.le_succ _)) (Nat.le_refl _) (I := fun _ _ => True) (Y := I (k + 1)) (Yx := fun c => Ix c (k + 1)) (a1 := a1 v) hs hr
      (fun W o o' h q z => hI.putObj o' h (Nat.le_succ _) q z) (fun c W o o' h q z => (hIx c).putObj o' h (Nat.le_succ _) q z) (fun K hK => hassign _ k v W1 K hk hi' hK) (hbody _ k v _ hk (hI' k v W1 _ _ hi' hr.1 rfl))
    refine ⟨f1, t1, s1, b1, y1, y2.mono ?_⟩
    rintro e W' ⟨b, he, (⟨q1, q2, q3⟩ | ⟨q1, q2⟩)⟩
    · exact ⟨b, he, .inl ⟨q1, q2, (Kept.of_below hb S).then_ q3 (fun _ h => .inl h)⟩⟩
    · exact ⟨b, he, .inr ⟨q1, q2⟩⟩
  · rintro e W2 ⟨⟨v, rfl⟩, (⟨hi, hl, hd⟩ | ⟨k, hk, c, hi, hl, hd⟩)⟩
    · exact ⟨none, _, run_endLoop hl (by simp [recV]), hdone _ (hI.putObj _ hi (Nat.le_succ _) hl rfl) ((World.putObj_heap_other (by omega)).trans hd)⟩
    · exact ⟨some c, _, run_endLoop hl (by simp [recV]), hstop c k _ hk ((hIx c).putObj _ hi (Nat.le_succ _) hl rfl) ((World.putObj_heap_other (by omega)).trans hd)⟩
end Go.Proofs.Ythnadkdfgckijaa.Pure
