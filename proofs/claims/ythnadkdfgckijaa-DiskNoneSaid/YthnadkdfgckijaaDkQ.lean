/- The writes that are pending, as a row: walked. -/
import Derived.Test.YthnadkdfgckijaaDkH
import Derived.OwnWalkIn
import Derived.Maps.AppendAt
namespace Go.Proofs.Ythnadkdfgckijaa.Pure
open Go.RowKit Go.Proofs.Ythnadkdfgckijaa Go.Proofs.Ythnadkdfgckijaa.PAll Go.Proofs.Ythnadkdfgckijaa.Mem Go.Proofs.YthnadkdfgckijaaW.PrintWords Go.Proofs.YthnadkdfgckijaaW.PrintLast Go.Proofs.YthnadkdfgckijaaW.PrintMore
set_option linter.unusedVariables false
set_option linter.unusedSimpArgs false

def pI (P : List (Int × List Int)) (k : Nat) : Int := (P.getD k (0, [])).1
def pB (P : List (Int × List Int)) (k : Nat) : List Int := (P.getD k (0, [])).2
theorem seq89 {n : Nat} (hn : 1 ≤ n) {w : World} {gL : Nat} {ok : Nat → Prop} {P : List (Int × List Int)} (h : PenAt w gL ok P) (S : Nat → Prop) (hS : ∀ k, ok k → k < w.heap.size → ¬ S k) (hgS : ¬ S gL) (hP : P.length ≤ 1000000) (hlen : ∀ x ∈ P, x.2.length = 256) :
    SeqV n Try.prog 89 #[.pointer (some ⟨gL, 0, none⟩)] (penV (pI P) (pB P)) S P.length w := by
  obtain ⟨v, hb, hR⟩ := h
  obtain ⟨AP, cP, rfl, hcP, hPF⟩ := R_own hR
  have hall : ∀ x, ∃ f : Option Addr × Nat, x < P.length → (∃ ad, AP = some ad ∧ ad.block < w.heap.size ∧ ¬ S ad.block ∧ w.cell? (ad.add (x * 2)) = some (.int .i64 (pI P x)) ∧ w.cell? ⟨(ad.add (x * 2)).block, (ad.add (x * 2)).off + 1, none⟩ = some (.slice f.1 256 f.2)) ∧ 256 ≤ f.2 ∧ (pB P x).length = 256 ∧ ∀ W', Kept w W' S → Kd.C (Kd.int .u8) W' f.1 (pB P x).length (pB P x) := by
    intro x
    by_cases hx : x < P.length
    · obtain ⟨ad, Ab, cb, a1, a2, a3, a4, a5⟩ := pen_at hPF hx
      have hl := hlen _ (List.getElem_mem hx)
      have e : P.getD x (0, []) = P[x] := by rw [List.getD_eq_getElem?_getD, List.getElem?_eq_getElem hx]; rfl
      obtain ⟨ad', cs', b1, b2, b3, b4, b5⟩ := Kd.F_get hPF (0, []) (x : Int) (by omega) (by omega)
      rw [a1] at b1
      injection b1 with b1
      subst b1
      have hlt : ad.block < w.heap.size := by
        have := World.block_lt_of_cell? w _ a2
        rw [add_block] at this
        exact this
      refine ⟨(Ab, cb), fun _ => ⟨⟨ad, a1, hlt, hS _ (b5 (by decide)) hlt, by unfold pI; rw [e]; exact a2, by rw [hl] at a3; exact a3⟩, by rw [hl] at a4; exact a4, by unfold pB; rw [e]; exact hl, fun W' hk => ?_⟩⟩
      unfold pB
      rw [e]
      exact a5 W' (fun k q hlt => hk.2 k hlt (hS k q hlt))
    · exact ⟨(none, 0), fun h => absurd h hx⟩
  obtain ⟨f, hf⟩ := Classical.axiomOfChoice hall
  intro lo J Jx W hW hY hJ
  exact go89 n hn lo P.length cP AP (pI P) (fun x => (f x).1) (fun x => (f x).2) (pB P) gL S J Jx w hP hb hgS (fun x hx => (hf x hx).1) (fun x hx => (hf x hx).2) hY W hW hJ
theorem own_grown {A B : World} {row : Option Nat} {N base : Nat} {Y : Option Addr} {c : Nat} {l : List Int} (h : Own A base Y c l) (hg : A.grownBy B row) (hr : ∀ r, row = some r → N ≤ r ∧ ∃ o : Obj, A.heap[r]? = some o ∧ o.isCells = false) : Own B base Y c l := by
  refine own_kept h (fun g hp hA => hg.block g (own_lt h g hp hA).2 (fun e => ?_))
  obtain ⟨_, o, ho, hc⟩ := hr g e.symm
  obtain ⟨g', cur, h1, h2, h3, h4⟩ := h.blk hp
  rw [hA] at h1
  injection h1 with h1
  injection h1 with h1
  subst h1
  rw [h3] at ho
  cases ho
  cases hc
theorem R_grown {α : Type} {d : Kd α} {e base : Nat} {ok : Nat → Prop} {A B : World} {row : Option Nat} {N : Nat} {v : Value} {l : List α} (h : Kd.R d e A base ok v l) (hg : A.grownBy B row) (hr : ∀ r, row = some r → N ≤ r ∧ ∃ o : Obj, A.heap[r]? = some o ∧ o.isCells = false) : Kd.R d e B base ok v l := by
  refine Kd.R_mono (Kd.R_step (Kd.R_bound h) (fun k hk hlt => hg.block k hlt (fun e' => ?_))) (fun k hk => hk.1)
  obtain ⟨_, o, ho, hc⟩ := hr k e'.symm
  obtain ⟨_, _, _, q, _, cells, hq⟩ := hk
  rw [hq] at ho
  cases ho
  cases hc
theorem wpListIn_append_R {F : Fence} {n : Nat} {P : Program} {ops : Array Oper} {rest : List Oper} {o : Oper} {a : Act} {Q : Exit → Act → World → Prop} {α : Type} (d : Kd α) {W : World} (base : Nat) (hgd : o.guard = none) (s x : Operand) (t e : TypeId) (z : Value) (bytes : Nat)
    (ho : o.op = .call { callee := .builtin .append, args := #[s, x], argTypes := #[t, t] }) (ht : P.underlying t = some (.slice e)) (hinfo : (P.info? e).map (fun i => (i.zero, i.size, i.bytes)) = some (some z, d.sz, bytes)) (hz : z.cells.size = d.sz) (hs0 : 0 < d.sz) (hb0 : 0 < bytes)
    (v : Value) (xs : List α) (p : α) (cs : List Value) (ok okp : Nat → Prop) (hs : a.eval s = v) (hx : a.eval x = .slice (some ⟨W.heap.size, 0, none⟩) 1 1) (hp : d.M W base okp p cs) (hokp : ∀ k, okp k → ok k ∧ some k ≠ v.ownBlock) (hfresh : ∀ k, W.heap.size ≤ k → ok k)
    (HO : d.R e W base ok v xs) (hbase : base ≤ W.heap.size) (hl : (xs.length + 1) * bytes ≤ 140737488355328)
    (h : ∀ v1 w1, d.R e w1 base ok v1 (xs ++ [p]) → W.grownBy w1 v.ownBlock → wpListIn F n P ops Q rest (a.put o.dst v1) w1) :
    wpListIn F n P ops Q (o :: rest) a (W.alloc (.cells cs.toArray e)) := by
  obtain ⟨h0, inner, hown, hr⟩ := HO
  obtain ⟨i0, hi, hzz⟩ := Option.map_eq_some_iff.1 hinfo
  simp only [Prod.mk.injEq] at hzz
  obtain ⟨hz0, hz1, hz2⟩ := hzz
  have hlen : xs.length + 1 ≤ 140737488355328 := Nat.le_trans (Nat.le_mul_of_pos_right _ hb0) hl
  have hcl : cs.length = 1 * d.sz := by rw [Nat.one_mul]; exact d.K_len (d.K_of_M hp)
  refine wpListIn_plain hgd fun K hK' => ?_
  obtain ⟨v', w', hrun, r1, r2, r3, r4⟩ := run_append_own_at (P := P) (w := W.alloc (.cells cs.toArray e)) base t o.type e i0 z d.sz bytes ht hi hz0 hz1 hz2 hz hs0 v xs.length inner (hown.alloc _) ⟨W.heap.size, 0, none⟩ 1 1 cs hcl
    (by simpa using World.news_of_block (cs := cs.toArray) (t := e) (fr := (0, 0)) (heap_alloc_new W (.cells cs.toArray e))) (d.K_one (d.K_of_M hp)) (by simp only [maxLen]; omega) hl (by simp; omega)
  have hg : W.grownBy w' v.ownBlock := World.grownBy.trans (World.grownBy_alloc W _ _) r2
  unfold Oper.wpIn
  refine ⟨?_, ?_⟩
  · simp [Oper.about, ho, resolve, Target.leads, Sem.run_pure]
  · rw [Oper.semAt_plain F _ _ (by rw [ho]; intro c hc'; cases hc')]
    simp [execOp, ho, resolve, invoke, builtin, hs, hx, hrun, Result.andThen]
    refine hK' _ _ (h v' w' (Kd.R_appended h0 hr hp hokp hfresh r1 hg ?_) hg)
    rcases r4 with r4 | r4
    · exact .inl r4
    · exact .inr ⟨_, r4, by simp⟩
set_option maxRecDepth 100000 in
theorem nil108 (p : Value) (W : World) : (binOp .eql 108 (.func (.func 89) #[] #[p]) .nilFunc).run Try.prog W = .ok (.bool false) W := by rfl
theorem info43 : (Try.prog.info? 43).map (fun i => (i.zero, i.size, i.bytes)) = some (some (.agg #[.int .i64 0, .slice none 0 0]), kW.sz, 32) := by kernel_rfl
/-- What the range holds. -/
structure PenI (w : World) (B1 : Nat) (most : Int) (Z : Nat → Prop) (l : List (Int × List Int)) (W : World) : Prop where
  m : Boxed W w.heap.size 3 (.int .i64 most)
  l : ∃ v, Boxed W (w.heap.size + 1) 38 v ∧ Kd.R kW 43 W 0 Z v l
  b : Below w.heap.size w W
  s : B1 ≤ W.heap.size
theorem PenI.grown {w : World} {B1 : Nat} {most : Int} {Z : Nat → Prop} {l : List (Int × List Int)} {A B : World} {row : Option Nat} {N : Nat} (h : PenI w B1 most Z l A) (hN : w.heap.size ≤ N) (hg : A.grownBy B row) (hr : ∀ r, row = some r → N ≤ r ∧ ∃ o : Obj, A.heap[r]? = some o ∧ o.isCells = false) : PenI w B1 most Z l B := by
  obtain ⟨v, h1, h2⟩ := h.l
  exact ⟨boxed_own h.m hg hr, ⟨v, boxed_own h1 hg hr, R_grown h2 hg hr⟩, below_own h.b hg hr hN, Nat.le_trans h.s hg.size⟩
theorem PenI.below {w : World} {B1 : Nat} {most : Int} {Z : Nat → Prop} {l : List (Int × List Int)} {A B : World} (h : PenI w B1 most Z l A) (hb : Below A.heap.size A B) : PenI w B1 most Z l B := by
  obtain ⟨v, h1, h2⟩ := h.l
  exact ⟨(hb.block _ h.m.lt).trans h.m, ⟨v, (hb.block _ h1.lt).trans h1, Kd.R_below h2 hb⟩, h.b.trans (hb.mono h.b.size), Nat.le_trans h.s hb.size⟩
theorem PenI.upto {w : World} {B1 : Nat} {most : Int} {Z : Nat → Prop} {l : List (Int × List Int)} {W : World} (h : PenI w B1 most Z l W) : PenI w B1 most (fun k => Z k ∧ k < W.heap.size) l W := by
  obtain ⟨v, h1, h2⟩ := h.l
  exact ⟨h.m, ⟨v, h1, Kd.R_mono (Kd.R_bound h2) (fun k hk => ⟨hk.1, hk.2.2.1⟩)⟩, h.b, h.s⟩
theorem PenI.mono {w : World} {B1 : Nat} {most : Int} {Z Z' : Nat → Prop} {l : List (Int × List Int)} {W : World} (h : PenI w B1 most Z l W) (hz : ∀ k, Z k → Z' k) : PenI w B1 most Z' l W := by
  obtain ⟨v, h1, h2⟩ := h.l
  exact ⟨h.m, ⟨v, h1, Kd.R_mono h2 hz⟩, h.b, h.s⟩
/-- A round's append. -/
theorem pen_step {w W w1 : World} {B1 : Nat} {most : Int} {Z : Nat → Prop} {l : List (Int × List Int)} {x : Int × List Int} {v v1 : Value} (hB : w.heap.size + 2 ≤ B1) (hm : Boxed W w.heap.size 3 (.int .i64 most)) (hv : Boxed W (w.heap.size + 1) 38 v) (hR : Kd.R kW 43 W 0 Z v l) (hZ : ∀ k, Z k → B1 ≤ k) (hb : Below w.heap.size w W) (hs : B1 ≤ W.heap.size)
    (hg : W.grownBy w1 v.ownBlock) (hR1 : Kd.R kW 43 w1 0 (fun k => B1 ≤ k) v1 (l ++ [x])) :
    Boxed w1 (w.heap.size + 1) 38 v ∧ KeepsOthers W (w1.setCell ⟨w.heap.size + 1, 0, none⟩ v1) ∧ Kept W (w1.setCell ⟨w.heap.size + 1, 0, none⟩ v1) (fun q => q = w.heap.size + 1 ∨ B1 ≤ q) ∧ PenI w B1 most (fun k => B1 ≤ k) (l ++ [x]) (w1.setCell ⟨w.heap.size + 1, 0, none⟩ v1) := by
  have hown : ∀ k, v.ownBlock = some k → B1 ≤ k ∧ ∃ cells q, W.heap[k]? = some (.cells cells q (0, 0)) := fun k hk => by
    obtain ⟨q1, _, _, q, _, cells, hq⟩ := (Kd.R_bound hR).1 k hk
    exact ⟨hZ k q1, cells, q, hq⟩
  have hv1 : Boxed w1 (w.heap.size + 1) 38 v := hv.kept hg (fun e => by have := (hown _ e.symm).1; omega)
  have hm1 : Boxed w1 w.heap.size 3 (.int .i64 most) := hm.kept hg (fun e => by have := (hown _ e.symm).1; omega)
  refine ⟨hv1, (KeepsOthers.of_grownBy hg (fun j o e ho => ?_)).trans (KeepsOthers.setCell _ _ _), (Kept.of_grown hg (Kept.refl W _) (fun q e => .inl (.inr (hown q e).1))).then_ ⟨by simp, fun k hk hn => Below.heap_setCell w1 _ v1 k (fun e => hn (.inl e))⟩ (fun _ h => .inl h), ⟨?_, ⟨v1, hv1.set v1, ?_⟩, ?_, ?_⟩⟩
  · obtain ⟨_, cells, q, hq⟩ := hown j e
    rw [hq] at ho
    cases ho
    rfl
  · exact (Below.heap_setCell w1 ⟨w.heap.size + 1, 0, none⟩ v1 w.heap.size (by show _ ≠ w.heap.size + 1; omega)).trans hm1
  · exact Kd.R_step hR1 (fun k hk hlt => Below.heap_setCell w1 _ v1 k (by show k ≠ w.heap.size + 1; omega))
  · exact (hb.grown hg hb.size (fun j e => by have := (hown j e).1; omega)).setCell (p := ⟨w.heap.size + 1, 0, none⟩) (Nat.le_succ _) v1
  · have := hg.size
    simp
    omega
end Go.Proofs.Ythnadkdfgckijaa.Pure
