/- The slots of an extent, or of two, share no byte, lie in the heap, and fill their extent; entries and marks likewise: walked. -/
import Derived.Test.YthfjgheedingbaaCovers
import Derived.ArgAppend
import Derived.WalkArith
namespace Go.Proofs.Ythfjgheedingbaa.Pure
open Go.RowKit Go.Proofs.Ythfjgheedingbaa Go.Proofs.Ythfjgheedingbaa.PAll Go.Proofs.Ythfjgheedingbaa.Mem Go.Proofs.YthfjgheedingbaaW.PrintWords Go.Proofs.YthfjgheedingbaaW.PrintLast Go.Proofs.YthfjgheedingbaaW.PrintMore
set_option linter.unusedVariables false
set_option linter.unusedSimpArgs false

/-- A row of whole numbers in a block. -/
structure RowI (w : World) (g : Nat) (es : List Nat) : Prop where
  lt : g < w.heap.size
  at_ : ∀ j, j < es.length → w.cell? ⟨g, j, none⟩ = some (.int .i64 ((es.getD j 0 : Nat) : Int))
theorem RowI.kept {w w' : World} {g : Nat} {es : List Nat} (h : RowI w g es) (hb : w'.heap[g]? = w.heap[g]?) : RowI w' g es := by
  have hlt : g < w'.heap.size := by
    have := h.lt
    rw [Array.getElem?_eq_getElem this] at hb
    exact (Array.getElem?_eq_some_iff.1 hb).1
  exact ⟨hlt, fun j hj => (World.cell?_of_block hb).trans (h.at_ j hj)⟩
/-- What the walk keeps: g, its plan, the map's variable, the row of extents. -/
structure Env (w0 w : World) (gg gp gB gM gl : Nat) (A B : Array Value) (es : List Nat) : Prop where
  g0 : w.heap[gg]? = some (.cells A 23 (0, 0))
  p3 : w.heap[gp]? = some (.cells B 25 (0, 0))
  gb : w.heap[gB]? = some (.cells #[.map (some gM)] 36 (0, 0))
  ri : RowI w gl es
  kk : Below w0.heap.size w0 w
theorem Env.below {w0 w w' : World} {gg gp gB gM gl : Nat} {A B : Array Value} {es : List Nat} (E : Env w0 w gg gp gB gM gl A B es) (h : Below w.heap.size w w') : Env w0 w' gg gp gB gM gl A B es :=
  ⟨(h.block _ (blk_lt E.g0)).trans E.g0, (h.block _ (blk_lt E.p3)).trans E.p3, (h.block _ (blk_lt E.gb)).trans E.gb, E.ri.kept (h.block _ E.ri.lt), E.kk.trans (h.mono E.kk.size)⟩
theorem Env.fr {w0 w w' : World} {gg gp gB gM gl : Nat} {A B : Array Value} {es : List Nat} (E : Env w0 w gg gp gB gM gl A B es) (hn : gg ≠ gM ∧ gp ≠ gM ∧ gB ≠ gM ∧ gl ≠ gM ∧ w0.heap.size ≤ gM) (h : Fr (· = gM) w w') : Env w0 w' gg gp gB gM gl A B es :=
  ⟨(h.block _ (blk_lt E.g0) hn.1).trans E.g0, (h.block _ (blk_lt E.p3) hn.2.1).trans E.p3, (h.block _ (blk_lt E.gb) hn.2.2.1).trans E.gb, E.ri.kept (h.block _ E.ri.lt hn.2.2.2.1), h.below E.kk (fun i hi => hi ▸ hn.2.2.2.2) E.kk.size⟩
theorem rem_nat (E D : Nat) : Int.tmod (E : Int) (D : Int) = ((E % D : Nat) : Int) := by rw [Int.tmod_eq_emod_of_nonneg (by omega)]; omega
theorem remw (E D : Nat) (h : E < 256) : (IntKind.i64.wrap (E : Int)).tmod (D : Int) = ((E % D : Nat) : Int) := by
  rw [show IntKind.i64.wrap (E : Int) = (E : Int) by simp only [IntKind.wrap, IntKind.signed, IntKind.bits]; simp; omega]
  exact rem_nat E D
theorem u8_nat {x : Int} (h : (Lit.int .u8 x).wf = true) : ∃ n : Nat, x = n ∧ n < 256 := by
  simp [Lit.wf, IntKind.min, IntKind.max, IntKind.signed, IntKind.bits] at h
  exact ⟨x.toNat, by omega, by omega⟩
theorem new2 (w : World) (x y : Value) (hy : y.oneCell' = true) : ((w.alloc (.cells #[x] 3)).alloc (.cells #[y] 3)).cell? ⟨w.heap.size + 1, 0, none⟩ = some y := by
  have q := heap_new (w.alloc (.cells #[x] 3)) (.cells #[y] 3)
  rw [show (w.alloc (.cells #[x] 3)).heap.size = w.heap.size + 1 by simp] at q
  rw [blk_cell q]
  simp
theorem table_f (p1 p3 p4 p5 p6 : Int) (P2 x : Nat) (hP : P2 ≤ 2048) (hx : x ≤ 255) : geom_TableAt.f p1 (P2 : Int) p3 p4 p5 p6 (x : Int) = some (((P2 + x * 8 / 256 : Nat) : Int), ((x * 8 % 256 : Nat) : Int)) := by
  unfold geom_TableAt.f
  rw [show (8 : Int) = ((8 : Nat) : Int) from rfl, at_eq P2 x 8 hP hx (by omega)]
  rfl
theorem marks_f (p1 p2 p4 p5 p6 : Int) (P3 x : Nat) (hP : P3 ≤ 2048) (hx : x ≤ 255) : geom_MarksAt.f p1 p2 (P3 : Int) p4 p5 p6 (x : Int) = some (((P3 + x * 4 / 256 : Nat) : Int), ((x * 4 % 256 : Nat) : Int)) := by
  unfold geom_MarksAt.f
  rw [show (4 : Int) = ((4 : Nat) : Int) from rfl, at_eq P3 x 4 hP hx (by omega)]
  rfl
theorem next_of {es : List Nat} {D : Nat} (hn : es.Nodup) (hd : ∀ x ∈ es, x < D) {k x : Nat} (hk : k < es.length) (hx : x = es.getD k 0) : x < D ∧ x ∉ es.take k ∧ es.take (k + 1) = es.take k ++ [x] := by
  have he : x = es[k] := by rw [hx]; simp [List.getD_eq_getElem?_getD, hk]
  refine ⟨hd x (he ▸ List.getElem_mem hk), fun h => ?_, ?_⟩
  · obtain ⟨i, hi, q⟩ := List.mem_iff_getElem.1 h
    rw [List.length_take] at hi
    rw [List.getElem_take, he] at q
    have := (List.getElem_inj hn).1 q
    omega
  · rw [List.take_add_one, List.getElem?_eq_getElem hk, he]
    rfl
theorem es1 {ea eb D : Nat} (h : ea < D ∧ eb < D) : [ea].Nodup ∧ ∀ x ∈ [ea], x < D := ⟨by simp, fun x hx => by
  simp only [List.mem_cons, List.not_mem_nil, or_false] at hx
  rw [hx]
  exact h.1⟩
theorem es2 {ea eb D : Nat} (h : ea < D ∧ eb < D) (hne : ¬ ea = eb) : [ea, eb].Nodup ∧ ∀ x ∈ [ea, eb], x < D := ⟨by simp; exact hne, fun x hx => by
  simp only [List.mem_cons, List.not_mem_nil, or_false] at hx
  rcases hx with rfl | rfl
  · exact h.1
  · exact h.2⟩
theorem st_n {k q n : Nat} (h : k + q = n) (hl : k < n) : k + 1 + (q - 1) = n ∧ q - 1 < q := by omega
theorem en_k {k q n : Nat} (h : k + q = n) (hl : ¬ k < n) : k = n := by omega
theorem di_t {k n : Nat} (h : k < n) : decide ((k : Int) < (n : Int)) = true ∧ decide (k < n) = true := ⟨decide_eq_true (by omega), decide_eq_true h⟩
theorem one_t {k : Nat} (h : k = 1) : ((k : Int) == 1) = true ∧ (k == 1) = true := by subst h; exact ⟨rfl, rfl⟩
theorem one_f {k : Nat} (h : ¬ k = 1) : ((k : Int) == 1) = false ∧ (k == 1) = false := by
  refine ⟨?_, ?_⟩
  · simp; omega
  · simp; omega
theorem ng {w1 w2 : World} {B gM gr : Nat} (h : gM < w1.heap.size) (hb : Below B w1 w2) (hG : w2.heap.size ≤ gr) : gr ≠ gM := by
  have := hb.size
  omega
theorem remw6 (x : Nat) (h : x < 256) : (wrap64 (x : Int)).tmod 6 = ((x % 6 : Nat) : Int) := by
  rw [show wrap64 (x : Int) = (x : Int) by unfold wrap64; omega, Int.tmod_eq_emod_of_nonneg (by omega)]
  omega
theorem drawn_below {w w' : World} (h : Drawn0 w w') : Below w.heap.size w w' := by
  obtain ⟨n, rfl⟩ := h.out
  exact ⟨rfl, rfl, rfl, Nat.le_refl _, fun _ _ => rfl⟩
theorem lay_small {P2 P3 P4 P5 P6 D : Nat} {a : Int} (L : Lay P2 P3 P4 P5 P6 D a) {x : Nat} (hx : x < D) : P2 ≤ 2048 ∧ P3 ≤ 2048 ∧ P5 ≤ 2048 ∧ x ≤ 255 := by
  obtain ⟨q2, q3, q4, q5, q6, q7, q8, q9, q0⟩ := L
  omega
theorem kn {k n : Nat} (h : k < n) (hn : n ≤ 2) : 1036 * k ≤ 10000 ∧ 1036 * k + 8 ≤ 10000 ∧ 1036 * k + 12 ≤ 5000 := by omega
theorem off_8 (x : Nat) : x * 8 % 256 ≤ 248 ∧ decide (256 < ((x * 8 % 256 : Nat) : Int) + 8) = false ∧ decide (((x * 8 % 256 : Nat) : Int) + 8 > 256) = false ∧ decide (256 < x * 8 % 256 + 8) = false ∧ decide (wrap64 (((x * 8 % 256 : Nat) : Int) + 8) > 256) = false := by
  have h : x * 8 % 256 ≤ 248 := by omega
  obtain ⟨y, hy⟩ : ∃ y, y = x * 8 % 256 := ⟨_, rfl⟩
  rw [← hy] at h ⊢
  refine ⟨h, decide_eq_false (by omega), decide_eq_false (by omega), decide_eq_false (by omega), decide_eq_false ?_⟩
  unfold wrap64
  omega
theorem off_4 (x : Nat) : x * 4 % 256 ≤ 252 ∧ decide (256 < ((x * 4 % 256 : Nat) : Int) + 4) = false ∧ decide (((x * 4 % 256 : Nat) : Int) + 4 > 256) = false ∧ decide (256 < x * 4 % 256 + 4) = false ∧ decide (wrap64 (((x * 4 % 256 : Nat) : Int) + 4) > 256) = false := by
  have h : x * 4 % 256 ≤ 252 := by omega
  obtain ⟨y, hy⟩ : ∃ y, y = x * 4 % 256 := ⟨_, rfl⟩
  rw [← hy] at h ⊢
  refine ⟨h, decide_eq_false (by omega), decide_eq_false (by omega), decide_eq_false (by omega), decide_eq_false ?_⟩
  unfold wrap64
  omega
theorem inner0 {w : World} {g P2 P3 P5 x n B : Nat} {M : Nat → Bool} (h : Used w g (mM P2 P3 x M) (n + 8 + 4)) : Used w g (mH P2 P3 P5 x (0 * B) M) (n + 12 + 0 * B) := by
  rw [Nat.zero_mul, heap_zero]
  exact h
theorem innerS {w : World} {g P2 P3 P5 x n s B : Nat} {M : Nat → Bool} (h : Used w g (mH P2 P3 P5 x ((s + 1) * B) M) (n + s * B + B)) : Used w g (mH P2 P3 P5 x ((s + 1) * B) M) (n + (s + 1) * B) := by
  rw [show n + s * B + B = n + (s + 1) * B by rw [Nat.add_mul]; omega] at h
  exact h
theorem inner1 {w : World} {g P2 P3 P5 x k s cl : Nat} {M : Nat → Bool} (hc : cl < 6) (hs : s = slotN cl) (h : Used w g (mH P2 P3 P5 x (s * slotB cl) M) (1036 * k + 12 + s * slotB cl)) : Used w g (mH P2 P3 P5 x 1024 M) (1036 * (k + 1)) := by
  rw [hs, (slot_facts hc).2.2.1] at h
  rw [show 1036 * (k + 1) = 1036 * k + 12 + 1024 by omega]
  exact h
theorem kn2 {k n s cl : Nat} (h : k < n) (hn : n ≤ 2) (hc : cl < 6) (hs : s < slotN cl) : 1036 * k + 12 + s * slotB cl ≤ 10000 := by
  have := slot_le hc hs
  omega
theorem stepv {k : Nat} (h : k < 1000) : Value.int .i64 (wrap64 ((k : Int) + 1)) = .int .i64 ((k + 1 : Nat) : Int) := by
  rw [show wrap64 ((k : Int) + 1) = ((k + 1 : Nat) : Int) by unfold wrap64; omega]
structure Ready (w0 : World) (gg gp gB gM gl P2 P3 P4 P5 P6 D : Nat) (a b c p1 : Int) : Prop where
  hO : geom_Of.f a b c (D : Int) = some (p1, (P2 : Int), (P3 : Int), (P4 : Int), (P5 : Int), (P6 : Int), 0)
  h1 : p1 = 3
  L : Lay P2 P3 P4 P5 P6 D a
  ne : gg ≠ gM ∧ gp ≠ gM ∧ gB ≠ gM ∧ gl ≠ gM ∧ w0.heap.size ≤ gM
theorem place_table {w0 w : World} {gg gp gB gM gl P2 P3 P4 P5 P6 D : Nat} {a b c p1 : Int} {B : Array Value} {es ds : List Nat} {M : Nat → Bool} {n x : Nat} (R : Ready w0 gg gp gB gM gl P2 P3 P4 P5 P6 D a b c p1) (E : Env w0 w gg gp gB gM gl (quad a b c D) B es) (U : Used w gM M n) (hn : n ≤ 10000) (C : Cov P2 P3 P5 D ds M) (hx : x < D) (hd : x ∉ ds) :
    Calls Try.prog 14 #[.int .i64 ((P2 + x * 8 / 256 : Nat) : Int), .int .i64 ((x * 8 % 256 : Nat) : Int), .int .i64 8, .int .i64 3, .pointer (some ⟨gg, 0, none⟩), .pointer (some ⟨gB, 0, none⟩)] w fun e w' => e = .returned (.bool true) ∧ Used w' gM (mT P2 x M) (n + 8) ∧ Env w0 w' gg gp gB gM gl (quad a b c D) B es := by
  refine (place_c R.hO E.g0 E.gb U (P2 + x * 8 / 256) (x * 8 % 256) 8 3 (by omega) (by omega) hn (fun i hi => in_table R.L R.h1 x hx i hi) (fun i hi => table_free R.L C hx hd i hi)).mono ?_
  rintro e w' ⟨h, u, f⟩
  refine ⟨h, ?_, E.fr R.ne f⟩
  rw [table_lin] at u
  exact u
theorem place_marks {w0 w : World} {gg gp gB gM gl P2 P3 P4 P5 P6 D : Nat} {a b c p1 : Int} {B : Array Value} {es ds : List Nat} {M : Nat → Bool} {n x : Nat} (R : Ready w0 gg gp gB gM gl P2 P3 P4 P5 P6 D a b c p1) (E : Env w0 w gg gp gB gM gl (quad a b c D) B es) (U : Used w gM (mT P2 x M) n) (hn : n ≤ 10000) (C : Cov P2 P3 P5 D ds M) (hx : x < D) (hd : x ∉ ds) :
    Calls Try.prog 14 #[.int .i64 ((P3 + x * 4 / 256 : Nat) : Int), .int .i64 ((x * 4 % 256 : Nat) : Int), .int .i64 4, .int .i64 4, .pointer (some ⟨gg, 0, none⟩), .pointer (some ⟨gB, 0, none⟩)] w fun e w' => e = .returned (.bool true) ∧ Used w' gM (mM P2 P3 x M) (n + 4) ∧ Env w0 w' gg gp gB gM gl (quad a b c D) B es := by
  refine (place_c R.hO E.g0 E.gb U (P3 + x * 4 / 256) (x * 4 % 256) 4 4 (by omega) (by omega) hn (fun i hi => in_marks R.L R.h1 x hx i hi) (fun i hi => marks_free R.L C hx hd i hi)).mono ?_
  rintro e w' ⟨h, u, f⟩
  refine ⟨h, ?_, E.fr R.ne f⟩
  rw [marks_lin] at u
  exact u
theorem place_heap {w0 w : World} {gg gp gB gM gl P2 P3 P4 P5 P6 D : Nat} {a b c p1 : Int} {B : Array Value} {es ds : List Nat} {M : Nat → Bool} {n x s cl : Nat} (R : Ready w0 gg gp gB gM gl P2 P3 P4 P5 P6 D a b c p1) (E : Env w0 w gg gp gB gM gl (quad a b c D) B es) (U : Used w gM (mH P2 P3 P5 x (s * slotB cl) M) n) (hn : n ≤ 10000) (C : Cov P2 P3 P5 D ds M) (hx : x < D) (hd : x ∉ ds) (hcl : cl < 6) (hs : s < slotN cl) :
    Calls Try.prog 14 #[.int .i64 ((P5 + 4 * x + s * slotB cl / 256 : Nat) : Int), .int .i64 ((s * slotB cl % 256 : Nat) : Int), .int .i64 ((slotB cl : Nat) : Int), .int .i64 6, .pointer (some ⟨gg, 0, none⟩), .pointer (some ⟨gB, 0, none⟩)] w fun e w' => e = .returned (.bool true) ∧ Used w' gM (mH P2 P3 P5 x ((s + 1) * slotB cl) M) (n + slotB cl) ∧ Env w0 w' gg gp gB gM gl (quad a b c D) B es := by
  have hm := slot_le hcl hs
  refine (place_c R.hO E.g0 E.gb U (P5 + 4 * x + s * slotB cl / 256) (s * slotB cl % 256) (slotB cl) 6 (Nat.mod_lt _ (by decide)) (slot_facts hcl).2.2.2.1 hn (fun i hi => in_heap R.L R.h1 x hx _ _ hm i hi) (fun i hi => heap_free R.L C hx hd _ _ hm i hi)).mono ?_
  rintro e w' ⟨h, u, f⟩
  refine ⟨h, ?_, E.fr R.ne f⟩
  rw [heap_add] at u
  rw [Nat.add_mul, Nat.one_mul]
  exact u
theorem app_i64 {ops : Array Oper} {rest : List Oper} {o : Oper} {a : Act} {Q : Exit → Act → World → Prop} {W : World} (hgd : o.guard = none) (s x : Operand)
    (ho : o.op = .call { callee := .builtin .append, args := #[s, x], argTypes := #[39, 39] }) (g h X Y : Nat) (hs : a.eval s = .slice (some ⟨g, 0, none⟩) 1 1) (hx : a.eval x = .slice (some ⟨h, 0, none⟩) 1 1)
    (c1 : W.cell? ⟨g, 0, none⟩ = some (.int .i64 (X : Int))) (c2 : W.cell? ⟨h, 0, none⟩ = some (.int .i64 (Y : Int)))
    (K : ∀ G c w1, W.heap.size ≤ G → RowI w1 G [X, Y] → Below W.heap.size W w1 → wpList Try.prog ops Q rest (a.put o.dst (.slice (some ⟨G, 0, none⟩) 2 c)) w1) : wpList Try.prog ops Q (o :: rest) a W := by
  obtain ⟨i0, hi, hzz⟩ := Option.map_eq_some_iff.1 info3
  simp only [Prod.mk.injEq] at hzz
  obtain ⟨hz0, hz1, hz2⟩ := hzz
  refine wpList_append_grows W hgd s x 39 ho 3 i0 (.int .i64 0) 1 8 Try.underlying39 hi hz0 hz1 hz2 rfl (by decide) (some ⟨g, 0, none⟩) 1 1 [.int .i64 X] hs (fun h => by cases h) rfl (fun b hb j u hu => ?_) ⟨h, 0, none⟩ 1 1 [.int .i64 Y] hx rfl (fun j u hu => ?_) (fun u hu => ?_) (by decide) (by unfold maxLen; decide) (by decide) ?_
  · cases hb
    cases j with
    | zero => cases hu; exact c1
    | succ j => cases hu
  · cases j with
    | zero => cases hu; exact c2
    | succ j => cases hu
  · simp at hu
    subst hu
    rfl
  · intro v1 w1 hown hg
    obtain ⟨_, ⟨_, hn⟩ | ⟨G, cap, cur, rfl, hb, hh, hn, hm, hs, ht⟩⟩ := hown
    · cases hn
    · refine K G cap w1 hb ⟨blk_lt hh, fun j hj => ?_⟩ ((Below.refl W.heap.size W).grown hg (Nat.le_refl _) (fun _ h => by cases h))
      have hj2 : j < 2 := hj
      unfold World.cell?
      simp only [hh]
      have q : cur[j]? = ([.int .i64 X, .int .i64 Y] : List Value)[j]? := by
        have q2 : (cur.toList.take 2)[j]? = ([.int .i64 X, .int .i64 Y] : List Value)[j]? := by rw [show (2 : Nat) = (1 + 1) * 1 from rfl, ht]; rfl
        rw [List.getElem?_take_of_lt hj2] at q2
        simpa using q2
      have hj3 : j = 0 ∨ j = 1 := by omega
      rcases hj3 with rfl | rfl <;> simpa using q
set_option maxRecDepth 100000 in
set_option maxHeartbeats 16000000 in
theorem apart_walk (w : World) (a b c d : Int) (E F CC CO : Nat) (hE : E < 256) (hF : F < 256) (hCC : CC < 256) (hCO : CO < 256) : Calls Try.prog 6 #[.agg (quad a b c d), .int .u8 E, .int .u8 F, .int .u8 CC, .int .u8 CO] w fun e w' => e = .returned (.bool true) ∧ Below w.heap.size w w' := by
  have hu23 := Try.underlying23
  have hu25 := Try.underlying25
  obtain ⟨⟨p1, p2, p3, p4, p5, p6, pe⟩, hO, _⟩ := of_eq 1 a b c d (by omega)
  have HO := Aside0.mk hO
  have KK := Aside0.mk ((Below.refl w.heap.size w).alloc (Nat.le_refl _) (.cells (quad a b c d) 23))
  have G0 := Aside0.mk (heap_new w (.cells (quad a b c d) 23))
  have BE := Aside0.mk hE
  have BF := Aside0.mk hF
  have BC := Aside0.mk hCC
  have BO := Aside0.mk hCO
  rename_i hx
  clear hO hx hE hF hCC hCO
  have hmm := @run_makeMap Try.prog
  go_enter Try.func6, Try.ntmps6
  go_wp2_with fail
  refine (geom_Of.calls a b c d p1 p2 p3 p4 p5 p6 pe _ HO.out).mono ?_
  rintro e w1 ⟨rfl, hb⟩
  obtain ⟨g3, hg⟩ : ∃ g, g = w1.heap.size := ⟨_, rfl⟩
  have hbn := hb.alloc hb.size (.cells #[.int .i64 p1, .int .i64 p2, .int .i64 p3, .int .i64 p4, .int .i64 p5, .int .i64 p6] 25)
  replace KK := Aside0.mk (KK.out.trans (hbn.mono KK.out.size))
  replace G0 := Aside0.mk ((hbn.block _ (blk_lt G0.out)).trans G0.out)
  have P3 := Aside0.mk (show (w1.alloc (.cells #[.int .i64 p1, .int .i64 p2, .int .i64 p3, .int .i64 p4, .int .i64 p5, .int .i64 p6] 25)).heap[g3]? = some (.cells (six p1 p2 p3 p4 p5 p6) 25 (0, 0)) from by rw [hg]; exact heap_new w1 _)
  clear hb hbn
  go_wp2_with fail
  rw [← hg]
  clear hg
  refine (atticlaw04_begun.calls true _ begun_true).mono ?_
  rintro e w2 ⟨rfl, hb⟩
  replace KK := Aside0.mk (KK.out.trans (hb.mono KK.out.size))
  replace G0 := Aside0.mk ((hb.block _ (blk_lt G0.out)).trans G0.out)
  replace P3 := Aside0.mk ((hb.block _ (blk_lt P3.out)).trans P3.out)
  clear hb
  by_cases hpe : pe = 0
  case neg =>
    have hb1 : (pe != 0) = true := by simpa using hpe
    clear hpe
    go_wp2_with fail
    refine (atticlaw04_begun.calls true _ begun_true).mono ?_
    rintro e w3 ⟨rfl, hb⟩
    replace KK := Aside0.mk (KK.out.trans (hb.mono KK.out.size))
    clear hb
    go_wp2_with fail
    go_ret
    exact ⟨by simp, KK.out⟩
  subst hpe
  obtain ⟨P2, P3_, P4, P5, P6, D, e2, e3, e4, e5, e6, ed, h1, hL⟩ := lay_of (of_ok HO.out rfl)
  have LL := Aside0.mk hL
  have H1 := Aside0.mk h1
  subst e2 e3 e4 e5 e6 ed
  have hd0 : (((D : Nat) : Int) == 0) = false := by have := hL.h9; simp; omega
  have hd1 : (D == 0) = false := by have := hL.h9; simp; omega
  have hd2 : ((D : Nat) : Int) ≠ 0 := by have := hL.h9; omega
  have hd3 : D ≠ 0 := by have := hL.h9; omega
  clear hL h1
  obtain ⟨m0, m1, m2, m3⟩ := quad_cells G0.out
  go_wp2_with fail
  go_region_held3 (fun w' => w'.cell? ⟨w.heap.size, 3, none⟩ = some (.int .i64 (D : Int))) (go_keep) (fail)
  clear m0 m1 m2 m3 hd0 hd1 hd2 hd3
  rw [remw E D BE.out, remw F D BF.out]
  obtain ⟨ea, hea⟩ : ∃ n, n = E % D := ⟨_, rfl⟩
  obtain ⟨eb, heb⟩ : ∃ n, n = F % D := ⟨_, rfl⟩
  rw [← hea, ← heb]
  have EA := Aside0.mk (show ea < D ∧ eb < D from ⟨hea ▸ Nat.mod_lt _ LL.out.h9, heb ▸ Nat.mod_lt _ LL.out.h9⟩)
  clear hea heb
  go_upto_region 7 with fail
  rename_i hHeld K0 hK0
  clear hHeld
  have UU := Aside0.mk (used_made w2)
  have hb0 := (Below.refl w2.heap.size w2).alloc (Nat.le_refl _) (.map #[] 0)
  have hb1 := (Below.refl (w2.alloc (.map #[] 0)).heap.size (w2.alloc (.map #[] 0))).alloc (Nat.le_refl _) (.cells #[.map (some w2.heap.size)] 36)
  have hb2 := below_drew ((Below.refl w2.heap.size w2).alloc (Nat.le_refl _) (.map #[] 0) |>.alloc (by simp) (.cells #[.map (some w2.heap.size)] 36))
  have NE := Aside0.mk (show w.heap.size ≠ w2.heap.size ∧ g3 ≠ w2.heap.size ∧ w2.heap.size + 1 ≠ w2.heap.size ∧ w.heap.size ≤ w2.heap.size from by
    have q1 := blk_lt G0.out
    have q2 := blk_lt P3.out
    refine ⟨by omega, by omega, by omega, by omega⟩)
  replace KK := Aside0.mk (KK.out.trans (hb2.mono KK.out.size))
  replace G0 := Aside0.mk ((hb2.block _ (blk_lt G0.out)).trans G0.out)
  replace P3 := Aside0.mk ((hb2.block _ (blk_lt P3.out)).trans P3.out)
  have GB := Aside0.mk (show ((w2.alloc (.map #[] 0)).alloc (.cells #[.map (some w2.heap.size)] 36)).drew.heap[w2.heap.size + 1]? = some (.cells #[.map (some w2.heap.size)] 36 (0, 0)) from by
    have q := heap_new (w2.alloc (.map #[] 0)) (.cells #[.map (some w2.heap.size)] 36)
    rw [show (w2.alloc (.map #[] 0)).heap.size = w2.heap.size + 1 by simp] at q
    exact q)
  have U3 := Aside0.mk (used_kept UU.out (w' := ((w2.alloc (.map #[] 0)).alloc (.cells #[.map (some w2.heap.size)] 36)).drew) (hb1.block _ (used_lt UU.out)))
  clear UU hb0 hb1 hb2
  obtain ⟨w3, hw3⟩ : ∃ x, x = ((w2.alloc (.map #[] 0)).alloc (.cells #[.map (some w2.heap.size)] 36)).drew := ⟨_, rfl⟩
  rw [← hw3] at KK G0 P3 GB U3 ⊢
  obtain ⟨gB, hgB⟩ : ∃ g, g = w2.heap.size + 1 := ⟨_, rfl⟩
  rw [← hgB] at NE GB ⊢
  have QQ := Aside0.mk (show w2.heap.size < w3.heap.size from by rw [hw3]; simp; omega)
  obtain ⟨gM, hgM⟩ : ∃ g, g = w2.heap.size := ⟨_, rfl⟩
  rw [← hgM] at NE GB U3 QQ
  clear hw3 hgB hgM
  obtain ⟨gl, hgl⟩ : ∃ g, g = w3.heap.size := ⟨_, rfl⟩
  have EV := Aside0.mk (show Env w (w3.alloc (.cells #[.int .i64 ea] 3)) w.heap.size g3 gB gM gl (quad a b c D) (six p1 P2 P3_ P4 P5 P6) [ea] from by
    have hbn := (Below.refl w3.heap.size w3).alloc (Nat.le_refl _) (.cells #[.int .i64 ea] 3)
    refine ⟨(hbn.block _ (blk_lt G0.out)).trans G0.out, (hbn.block _ (blk_lt P3.out)).trans P3.out, (hbn.block _ (blk_lt GB.out)).trans GB.out, ⟨by rw [hgl]; simp, fun j hj => ?_⟩, KK.out.trans (hbn.mono KK.out.size)⟩
    have hj0 : j = 0 := by simpa using hj
    subst hj0
    rw [hgl, blk_cell (heap_new w3 _)]
    simp)
  have U4 := Aside0.mk (used_kept U3.out (w' := w3.alloc (.cells #[.int .i64 ea] 3)) (((Below.refl w3.heap.size w3).alloc (Nat.le_refl _) (.cells #[.int .i64 ea] 3)).block _ (used_lt U3.out)))
  have NL := Aside0.mk (show gl ≠ gM from by have := QQ.out; omega)
  clear KK G0 P3 GB U3 QQ
  by_cases hne : ea = eb
  case pos =>
    subst hne
    have hd0 : decide (ea = ea) = true := by simp
    go_upto_region 10 with fail
    rw [← hgl]
    clear hgl
    have ES := Aside0.mk (es1 EA.out)
    have RR := Aside0.mk (show Ready w w.heap.size g3 gB gM gl P2 P3_ P4 P5 P6 D a b c p1 from ⟨HO.out, H1.out, LL.out, NE.out.1, NE.out.2.1, NE.out.2.2.1, NL.out, NE.out.2.2.2⟩)
    obtain ⟨es, hes⟩ : ∃ l, l = [ea] := ⟨_, rfl⟩
    have EN := Aside0.mk (show es.length = 1 from by rw [hes]; rfl)
    rw [← hes] at EV ES
    clear hes EA
    go_wp2_with fail
    go_loopg [63] 1 (fun q v63 w' => ∃ (k : Nat) (M : Nat → Bool), v63 = .int .i64 (k : Int) ∧ Aside0 (k + q = 1) ∧ Aside0 (Used w' gM M (1036 * k)) ∧ Aside0 (Cov P2 P3_ P5 D (es.take k) M) ∧ Aside0 (Env w w' w.heap.size g3 gB gM gl (quad a b c D) (six p1 P2 P3_ P4 P5 P6) es))
    case atStart => exact ⟨0, fun _ => false, rfl, ⟨rfl⟩, U4, ⟨cov_none _ _ _ _⟩, EV⟩
    case round =>
      clear U4 EV
      obtain ⟨k, M, rfl, HJ, UU, CV, EV⟩ := hrel
      by_cases hlt : k < 1
      case pos =>
        obtain ⟨gout, hgout⟩ : ∃ x, x = gk := ⟨_, rfl⟩
        subst hgout
        have hgd : decide ((k : Int) < 1) = true := (di_t hlt).1
        have hgd2 : decide (k < 1) = true := (di_t hlt).2
        have HN := Aside0.mk (show k + 1 + (gout - 1) = 1 from (st_n HJ.out hlt).1)
        have HM := Aside0.mk (show gout - 1 < gout from (st_n HJ.out hlt).2)
        have HK := Aside0.mk hlt
        obtain ⟨x, hx⟩ : ∃ x, x = es.getD k 0 := ⟨_, rfl⟩
        have hc := EV.out.ri.at_ k (by rw [EN.out]; exact hlt)
        rw [← hx] at hc
        have XX := Aside0.mk (next_of ES.out.1 ES.out.2 (show k < es.length from by rw [EN.out]; exact hlt) hx)
        clear hx HJ
        have hk1 : ¬ k = 1 := fun h => absurd (h ▸ HK.out) (by decide)
        obtain ⟨hq1, hq2⟩ := one_f hk1
        clear hk1
        go_upto_region 16 with fail
        clear hlt hc
        rw [remw6 CC BC.out]
        obtain ⟨cl, hcl⟩ : ∃ n, n = CC % 6 := ⟨_, rfl⟩
        rw [← hcl]
        have C6 := Aside0.mk (show cl < 6 from hcl ▸ Nat.mod_lt _ (by decide))
        clear hcl
        obtain ⟨TB, hTB⟩ : ∃ n, n = P2 + x * 8 / 256 := ⟨_, rfl⟩
        obtain ⟨TO, hTO⟩ : ∃ n, n = x * 8 % 256 := ⟨_, rfl⟩
        obtain ⟨MB, hMB⟩ : ∃ n, n = P3_ + x * 4 / 256 := ⟨_, rfl⟩
        obtain ⟨MO, hMO⟩ : ∃ n, n = x * 4 % 256 := ⟨_, rfl⟩
        have HT := Aside0.mk (table_f p1 P3_ P4 P5 P6 P2 x (lay_small LL.out XX.out.1).1 (lay_small LL.out XX.out.1).2.2.2)
        have HMK := Aside0.mk (marks_f p1 P2 P4 P5 P6 P3_ x (lay_small LL.out XX.out.1).2.1 (lay_small LL.out XX.out.1).2.2.2)
        obtain ⟨hb1, hb2, hb3, hb4, hb5⟩ := off_8 x
        obtain ⟨hc1, hc2, hc3, hc4, hc5⟩ := off_4 x
        rw [← hTB, ← hTO] at HT
        rw [← hMB, ← hMO] at HMK
        rw [← hTO] at hb1 hb2 hb3 hb4 hb5
        rw [← hMO] at hc1 hc2 hc3 hc4 hc5
        have EQ := Aside0.mk (And.intro hTB (And.intro hTO (And.intro hMB hMO)))
        clear hTB hTO hMB hMO
        obtain ⟨n0, n1, n2, n3, n4, n5⟩ := six_cells EV.out.p3
        go_wp2_with fail
        clear n0 n1 n2 n3 n4 n5
        refine (geom_TableAt.calls p1 P2 P3_ P4 P5 P6 x TB TO _ HT.out).mono ?_
        rintro e w7 ⟨rfl, hb⟩
        replace UU := Aside0.mk (used_kept UU.out (hb.block _ (used_lt UU.out)))
        replace EV := Aside0.mk (EV.out.below hb)
        clear hb
        obtain ⟨n0, n1, n2, n3, n4, n5⟩ := six_cells EV.out.p3
        go_wp2_with fail
        clear n0 n1 n2 n3 n4 n5
        refine (geom_MarksAt.calls p1 P2 P3_ P4 P5 P6 x MB MO _ HMK.out).mono ?_
        rintro e w8 ⟨rfl, hb⟩
        replace UU := Aside0.mk (used_kept UU.out (hb.block _ (used_lt UU.out)))
        replace EV := Aside0.mk (EV.out.below hb)
        have PT := place_table RR.out EV.out UU.out (kn HK.out (by decide)).1 CV.out XX.out.1 XX.out.2.1
        rw [← EQ.out.1, ← EQ.out.2.1] at PT
        have PTA := Aside0.mk PT
        clear hb PT UU EV
        go_wp2_with fail
        refine PTA.out.mono ?_
        rintro e w9 ⟨rfl, hU9, hE9⟩
        have PT := place_marks RR.out hE9 hU9 (kn HK.out (by decide)).2.1 CV.out XX.out.1 XX.out.2.1
        rw [← EQ.out.2.2.1, ← EQ.out.2.2.2] at PT
        have PTB := Aside0.mk PT
        clear PT hU9 hE9 PTA
        go_wp2_with fail
        refine PTB.out.mono ?_
        rintro e wA ⟨rfl, hUA, hEA⟩
        have UA := Aside0.mk hUA
        have EVA := Aside0.mk hEA
        clear hUA hEA PTB HT HMK hb1 hb2 hb3 hb4 hb5 hc1 hc2 hc3 hc4 hc5
        go_wp2_with fail
        refine (geom_Slots.calls cl _ _ (slot_facts C6.out).2.1).mono ?_
        rintro e wB ⟨rfl, hdr⟩
        have hb := drawn_below hdr
        replace UA := Aside0.mk (used_kept UA.out (hb.block _ (used_lt UA.out)))
        replace EVA := Aside0.mk (EVA.out.below hb)
        clear hb hdr
        go_wp2_with fail
        obtain ⟨SN, hSN⟩ : ∃ n, n = slotN cl := ⟨_, rfl⟩
        rw [← hSN]
        have NS := Aside0.mk hSN
        clear hSN
        go_loopg [112] SN (fun q v112 w' => ∃ (s : Nat), v112 = .int .i64 (s : Int) ∧ Aside0 (s + q = SN) ∧ Aside0 (Used w' gM (mH P2 P3_ P5 x (s * slotB cl) M) (1036 * k + 12 + s * slotB cl)) ∧ Aside0 (Env w w' w.heap.size g3 gB gM gl (quad a b c D) (six p1 P2 P3_ P4 P5 P6) es))
        case atStart => exact ⟨0, rfl, ⟨Nat.zero_add _⟩, ⟨inner0 UA.out⟩, EVA⟩
        case round =>
          clear UA EVA
          obtain ⟨s, rfl, HJs, UA, EVA⟩ := hrel
          by_cases hls : s < SN
          case pos =>
            have hge := (di_t hls).1
            have hge2 := (di_t hls).2
            have HN2 := Aside0.mk (st_n HJs.out hls).1
            have HM2 := Aside0.mk (st_n HJs.out hls).2
            have HS := Aside0.mk (show s < slotN cl from NS.out ▸ hls)
            have HA := Aside0.mk (slotAt_eq p1 P2 P3_ P4 P6 P5 x cl s (lay_small LL.out XX.out.1).2.2.1 (lay_small LL.out XX.out.1).2.2.2 C6.out HS.out)
            obtain ⟨SB, hSB⟩ : ∃ n, n = P5 + 4 * x + s * slotB cl / 256 := ⟨_, rfl⟩
            obtain ⟨SO, hSO⟩ : ∃ n, n = s * slotB cl % 256 := ⟨_, rfl⟩
            rw [← hSB, ← hSO] at HA
            have EQS := Aside0.mk (And.intro hSB hSO)
            clear hSB hSO hls HJs
            obtain ⟨n0, n1, n2, n3, n4, n5⟩ := six_cells EVA.out.p3
            go_wp2_with fail
            clear n0 n1 n2 n3 n4 n5
            refine (geom_SlotAt.calls p1 P2 P3_ P4 P5 P6 x cl s SB SO _ HA.out).mono ?_
            rintro e wC ⟨rfl, hb⟩
            replace UA := Aside0.mk (used_kept UA.out (hb.block _ (used_lt UA.out)))
            replace EVA := Aside0.mk (EVA.out.below hb)
            clear hb HA
            go_wp2_with fail
            refine (geom_SlotBytes.calls cl _ _ (slot_facts C6.out).1).mono ?_
            rintro e wD ⟨rfl, hdr⟩
            have hb := drawn_below hdr
            replace UA := Aside0.mk (used_kept UA.out (hb.block _ (used_lt UA.out)))
            replace EVA := Aside0.mk (EVA.out.below hb)
            have PT := place_heap RR.out EVA.out UA.out (kn2 HK.out (by decide) C6.out HS.out) CV.out XX.out.1 XX.out.2.1 C6.out HS.out
            rw [← EQS.out.1, ← EQS.out.2] at PT
            have PTA := Aside0.mk PT
            clear hb hdr PT UA EVA
            go_wp2_with fail
            refine PTA.out.mono ?_
            rintro e wE ⟨rfl, hUE, hEE⟩
            have UE := Aside0.mk (innerS hUE)
            have EE := Aside0.mk hEE
            clear hUE hEE PTA
            go_wp2_with fail
            go_roundg (gk - 1)
            case measure => exact HM2.out
            case rel => exact ⟨s + 1, stepv (Nat.lt_of_lt_of_le HS.out (Nat.le_trans (slot_facts C6.out).2.2.2.2 (by decide))), HN2, UE, EE⟩
          have hse : s = SN := en_k HJs.out hls
          have UF := Aside0.mk (inner1 C6.out (hse.trans NS.out) UA.out)
          have CF := Aside0.mk (show Cov P2 P3_ P5 D (es.take (k + 1)) (mH P2 P3_ P5 x 1024 M) from XX.out.2.2 ▸ cov_next CV.out XX.out.1)
          subst hse
          have hge : decide ((s : Int) < (s : Int)) = false := by simp
          clear hls
          go_wp2_with fail
          go_roundg (gout - 1)
          case measure => exact HM.out
          case rel => exact ⟨k + 1, mH P2 P3_ P5 x 1024 M, stepv (Nat.lt_of_lt_of_le HK.out (by decide)), HN, UF, CF, EVA⟩
      have hke : k = 1 := en_k HJ.out hlt
      subst hke
      have hgd : decide (((1 : Nat) : Int) < 1) = false := by simp
      clear hlt
      have GB := Aside0.mk EV.out.gb
      have hcB : wr.cell? ⟨gB, 0, none⟩ = some (.map (some gM)) := by rw [blk_cell GB.out]; rfl
      obtain ⟨DD, hown, hsz, _⟩ := UU.out
      go_wp2_with (at_len; refine wpList_len_own _ rfl _ 36 rfl 37 4 Try.underlying36 _ gM _ DD rfl hown ?_; rw [hsz])
      go_ret
      exact ⟨by simp, EV.out.kk⟩
  case neg =>
    have hd1 : (eb == ea) = false := by simp; omega
    have hd0 : (((eb : Nat) : Int) == ((ea : Nat) : Int)) = false := by simp; omega
    have hd2 : (((eb : Nat) : Int) != ((ea : Nat) : Int)) = true := by simp; omega
    have hd3 : (eb != ea) = true := by simp; omega
    have HGL := Aside0.mk hgl
    clear hgl
    go_upto_region 10 with (at_builtin; (refine app_i64 rfl (.tmp 57) (.tmp 59) rfl w3.heap.size _ ea eb rfl rfl ?c1 ?c2 ?_); (case c1 => (rw [← HGL.out]; exact (World.cell?_of_block (((Below.refl _ (w3.alloc (.cells #[.int .i64 ea] 3))).alloc (Nat.le_refl _) (.cells #[.int .i64 eb] 3)).block _ EV.out.ri.lt)).trans (EV.out.ri.at_ 0 (by simp)))); (case c2 => exact new2 w3 _ _ rfl); intro gr cr w5 hG hR hbn)
    have hbx := ((Below.refl _ (w3.alloc (.cells #[.int .i64 ea] 3))).alloc (Nat.le_refl _) (.cells #[.int .i64 eb] 3)).trans (hbn.mono (by simp))
    have NG := Aside0.mk (show gr ≠ gM from ng (used_lt U4.out) ((Below.refl _ (w3.alloc (.cells #[.int .i64 ea] 3))).alloc (Nat.le_refl _) (.cells #[.int .i64 eb] 3)) hG)
    replace U4 := Aside0.mk (used_kept U4.out (hbx.block _ (used_lt U4.out)))
    have EV2 := Aside0.mk (EV.out.below hbx)
    replace EV := Aside0.mk (show Env w w5 w.heap.size g3 gB gM gr (quad a b c D) (six p1 P2 P3_ P4 P5 P6) [ea, eb] from ⟨EV2.out.g0, EV2.out.p3, EV2.out.gb, hR, EV2.out.kk⟩)
    clear EV2 hbx hbn hR hG NL
    have NL := NG
    clear NG HGL hd0 hd1 hd2 hd3
    have ES := Aside0.mk (es2 EA.out hne)
    have RR := Aside0.mk (show Ready w w.heap.size g3 gB gM gr P2 P3_ P4 P5 P6 D a b c p1 from ⟨HO.out, H1.out, LL.out, NE.out.1, NE.out.2.1, NE.out.2.2.1, NL.out, NE.out.2.2.2⟩)
    obtain ⟨es, hes⟩ : ∃ l, l = [ea, eb] := ⟨_, rfl⟩
    have EN := Aside0.mk (show es.length = 2 from by rw [hes]; rfl)
    rw [← hes] at EV ES
    clear hes EA
    go_wp2_with fail
    go_loopg [63] 2 (fun q v63 w' => ∃ (k : Nat) (M : Nat → Bool), v63 = .int .i64 (k : Int) ∧ Aside0 (k + q = 2) ∧ Aside0 (Used w' gM M (1036 * k)) ∧ Aside0 (Cov P2 P3_ P5 D (es.take k) M) ∧ Aside0 (Env w w' w.heap.size g3 gB gM gr (quad a b c D) (six p1 P2 P3_ P4 P5 P6) es))
    case atStart => exact ⟨0, fun _ => false, rfl, ⟨rfl⟩, U4, ⟨cov_none _ _ _ _⟩, EV⟩
    case round =>
      clear U4 EV
      obtain ⟨k, M, rfl, HJ, UU, CV, EV⟩ := hrel
      by_cases hlt : k < 2
      case pos =>
        obtain ⟨gout, hgout⟩ : ∃ x, x = gk := ⟨_, rfl⟩
        subst hgout
        have hgd : decide ((k : Int) < 2) = true := (di_t hlt).1
        have hgd2 : decide (k < 2) = true := (di_t hlt).2
        have HN := Aside0.mk (show k + 1 + (gout - 1) = 2 from (st_n HJ.out hlt).1)
        have HM := Aside0.mk (show gout - 1 < gout from (st_n HJ.out hlt).2)
        have HK := Aside0.mk hlt
        obtain ⟨x, hx⟩ : ∃ x, x = es.getD k 0 := ⟨_, rfl⟩
        have hc := EV.out.ri.at_ k (by rw [EN.out]; exact hlt)
        rw [← hx] at hc
        have XX := Aside0.mk (next_of ES.out.1 ES.out.2 (show k < es.length from by rw [EN.out]; exact hlt) hx)
        clear hx HJ
        by_cases hk1 : k = 1
        case pos =>
          obtain ⟨hq1, hq2⟩ := one_t hk1
          clear hk1
          go_upto_region 16 with fail
          clear hlt hc
          rw [remw6 CO BO.out]
          obtain ⟨cl, hcl⟩ : ∃ n, n = CO % 6 := ⟨_, rfl⟩
          rw [← hcl]
          have C6 := Aside0.mk (show cl < 6 from hcl ▸ Nat.mod_lt _ (by decide))
          clear hcl
          obtain ⟨TB, hTB⟩ : ∃ n, n = P2 + x * 8 / 256 := ⟨_, rfl⟩
          obtain ⟨TO, hTO⟩ : ∃ n, n = x * 8 % 256 := ⟨_, rfl⟩
          obtain ⟨MB, hMB⟩ : ∃ n, n = P3_ + x * 4 / 256 := ⟨_, rfl⟩
          obtain ⟨MO, hMO⟩ : ∃ n, n = x * 4 % 256 := ⟨_, rfl⟩
          have HT := Aside0.mk (table_f p1 P3_ P4 P5 P6 P2 x (lay_small LL.out XX.out.1).1 (lay_small LL.out XX.out.1).2.2.2)
          have HMK := Aside0.mk (marks_f p1 P2 P4 P5 P6 P3_ x (lay_small LL.out XX.out.1).2.1 (lay_small LL.out XX.out.1).2.2.2)
          obtain ⟨hb1, hb2, hb3, hb4, hb5⟩ := off_8 x
          obtain ⟨hc1, hc2, hc3, hc4, hc5⟩ := off_4 x
          rw [← hTB, ← hTO] at HT
          rw [← hMB, ← hMO] at HMK
          rw [← hTO] at hb1 hb2 hb3 hb4 hb5
          rw [← hMO] at hc1 hc2 hc3 hc4 hc5
          have EQ := Aside0.mk (And.intro hTB (And.intro hTO (And.intro hMB hMO)))
          clear hTB hTO hMB hMO
          obtain ⟨n0, n1, n2, n3, n4, n5⟩ := six_cells EV.out.p3
          go_wp2_with fail
          clear n0 n1 n2 n3 n4 n5
          refine (geom_TableAt.calls p1 P2 P3_ P4 P5 P6 x TB TO _ HT.out).mono ?_
          rintro e w7 ⟨rfl, hb⟩
          replace UU := Aside0.mk (used_kept UU.out (hb.block _ (used_lt UU.out)))
          replace EV := Aside0.mk (EV.out.below hb)
          clear hb
          obtain ⟨n0, n1, n2, n3, n4, n5⟩ := six_cells EV.out.p3
          go_wp2_with fail
          clear n0 n1 n2 n3 n4 n5
          refine (geom_MarksAt.calls p1 P2 P3_ P4 P5 P6 x MB MO _ HMK.out).mono ?_
          rintro e w8 ⟨rfl, hb⟩
          replace UU := Aside0.mk (used_kept UU.out (hb.block _ (used_lt UU.out)))
          replace EV := Aside0.mk (EV.out.below hb)
          have PT := place_table RR.out EV.out UU.out (kn HK.out (by decide)).1 CV.out XX.out.1 XX.out.2.1
          rw [← EQ.out.1, ← EQ.out.2.1] at PT
          have PTA := Aside0.mk PT
          clear hb PT UU EV
          go_wp2_with fail
          refine PTA.out.mono ?_
          rintro e w9 ⟨rfl, hU9, hE9⟩
          have PT := place_marks RR.out hE9 hU9 (kn HK.out (by decide)).2.1 CV.out XX.out.1 XX.out.2.1
          rw [← EQ.out.2.2.1, ← EQ.out.2.2.2] at PT
          have PTB := Aside0.mk PT
          clear PT hU9 hE9 PTA
          go_wp2_with fail
          refine PTB.out.mono ?_
          rintro e wA ⟨rfl, hUA, hEA⟩
          have UA := Aside0.mk hUA
          have EVA := Aside0.mk hEA
          clear hUA hEA PTB HT HMK hb1 hb2 hb3 hb4 hb5 hc1 hc2 hc3 hc4 hc5
          go_wp2_with fail
          refine (geom_Slots.calls cl _ _ (slot_facts C6.out).2.1).mono ?_
          rintro e wB ⟨rfl, hdr⟩
          have hb := drawn_below hdr
          replace UA := Aside0.mk (used_kept UA.out (hb.block _ (used_lt UA.out)))
          replace EVA := Aside0.mk (EVA.out.below hb)
          clear hb hdr
          go_wp2_with fail
          obtain ⟨SN, hSN⟩ : ∃ n, n = slotN cl := ⟨_, rfl⟩
          rw [← hSN]
          have NS := Aside0.mk hSN
          clear hSN
          go_loopg [112] SN (fun q v112 w' => ∃ (s : Nat), v112 = .int .i64 (s : Int) ∧ Aside0 (s + q = SN) ∧ Aside0 (Used w' gM (mH P2 P3_ P5 x (s * slotB cl) M) (1036 * k + 12 + s * slotB cl)) ∧ Aside0 (Env w w' w.heap.size g3 gB gM gr (quad a b c D) (six p1 P2 P3_ P4 P5 P6) es))
          case atStart => exact ⟨0, rfl, ⟨Nat.zero_add _⟩, ⟨inner0 UA.out⟩, EVA⟩
          case round =>
            clear UA EVA
            obtain ⟨s, rfl, HJs, UA, EVA⟩ := hrel
            by_cases hls : s < SN
            case pos =>
              have hge := (di_t hls).1
              have hge2 := (di_t hls).2
              have HN2 := Aside0.mk (st_n HJs.out hls).1
              have HM2 := Aside0.mk (st_n HJs.out hls).2
              have HS := Aside0.mk (show s < slotN cl from NS.out ▸ hls)
              have HA := Aside0.mk (slotAt_eq p1 P2 P3_ P4 P6 P5 x cl s (lay_small LL.out XX.out.1).2.2.1 (lay_small LL.out XX.out.1).2.2.2 C6.out HS.out)
              obtain ⟨SB, hSB⟩ : ∃ n, n = P5 + 4 * x + s * slotB cl / 256 := ⟨_, rfl⟩
              obtain ⟨SO, hSO⟩ : ∃ n, n = s * slotB cl % 256 := ⟨_, rfl⟩
              rw [← hSB, ← hSO] at HA
              have EQS := Aside0.mk (And.intro hSB hSO)
              clear hSB hSO hls HJs
              obtain ⟨n0, n1, n2, n3, n4, n5⟩ := six_cells EVA.out.p3
              go_wp2_with fail
              clear n0 n1 n2 n3 n4 n5
              refine (geom_SlotAt.calls p1 P2 P3_ P4 P5 P6 x cl s SB SO _ HA.out).mono ?_
              rintro e wC ⟨rfl, hb⟩
              replace UA := Aside0.mk (used_kept UA.out (hb.block _ (used_lt UA.out)))
              replace EVA := Aside0.mk (EVA.out.below hb)
              clear hb HA
              go_wp2_with fail
              refine (geom_SlotBytes.calls cl _ _ (slot_facts C6.out).1).mono ?_
              rintro e wD ⟨rfl, hdr⟩
              have hb := drawn_below hdr
              replace UA := Aside0.mk (used_kept UA.out (hb.block _ (used_lt UA.out)))
              replace EVA := Aside0.mk (EVA.out.below hb)
              have PT := place_heap RR.out EVA.out UA.out (kn2 HK.out (by decide) C6.out HS.out) CV.out XX.out.1 XX.out.2.1 C6.out HS.out
              rw [← EQS.out.1, ← EQS.out.2] at PT
              have PTA := Aside0.mk PT
              clear hb hdr PT UA EVA
              go_wp2_with fail
              refine PTA.out.mono ?_
              rintro e wE ⟨rfl, hUE, hEE⟩
              have UE := Aside0.mk (innerS hUE)
              have EE := Aside0.mk hEE
              clear hUE hEE PTA
              go_wp2_with fail
              go_roundg (gk - 1)
              case measure => exact HM2.out
              case rel => exact ⟨s + 1, stepv (Nat.lt_of_lt_of_le HS.out (Nat.le_trans (slot_facts C6.out).2.2.2.2 (by decide))), HN2, UE, EE⟩
            have hse : s = SN := en_k HJs.out hls
            have UF := Aside0.mk (inner1 C6.out (hse.trans NS.out) UA.out)
            have CF := Aside0.mk (show Cov P2 P3_ P5 D (es.take (k + 1)) (mH P2 P3_ P5 x 1024 M) from XX.out.2.2 ▸ cov_next CV.out XX.out.1)
            subst hse
            have hge : decide ((s : Int) < (s : Int)) = false := by simp
            clear hls
            go_wp2_with fail
            go_roundg (gout - 1)
            case measure => exact HM.out
            case rel => exact ⟨k + 1, mH P2 P3_ P5 x 1024 M, stepv (Nat.lt_of_lt_of_le HK.out (by decide)), HN, UF, CF, EVA⟩
        case neg =>
          obtain ⟨hq1, hq2⟩ := one_f hk1
          clear hk1
          go_upto_region 16 with fail
          clear hlt hc
          rw [remw6 CC BC.out]
          obtain ⟨cl, hcl⟩ : ∃ n, n = CC % 6 := ⟨_, rfl⟩
          rw [← hcl]
          have C6 := Aside0.mk (show cl < 6 from hcl ▸ Nat.mod_lt _ (by decide))
          clear hcl
          obtain ⟨TB, hTB⟩ : ∃ n, n = P2 + x * 8 / 256 := ⟨_, rfl⟩
          obtain ⟨TO, hTO⟩ : ∃ n, n = x * 8 % 256 := ⟨_, rfl⟩
          obtain ⟨MB, hMB⟩ : ∃ n, n = P3_ + x * 4 / 256 := ⟨_, rfl⟩
          obtain ⟨MO, hMO⟩ : ∃ n, n = x * 4 % 256 := ⟨_, rfl⟩
          have HT := Aside0.mk (table_f p1 P3_ P4 P5 P6 P2 x (lay_small LL.out XX.out.1).1 (lay_small LL.out XX.out.1).2.2.2)
          have HMK := Aside0.mk (marks_f p1 P2 P4 P5 P6 P3_ x (lay_small LL.out XX.out.1).2.1 (lay_small LL.out XX.out.1).2.2.2)
          obtain ⟨hb1, hb2, hb3, hb4, hb5⟩ := off_8 x
          obtain ⟨hc1, hc2, hc3, hc4, hc5⟩ := off_4 x
          rw [← hTB, ← hTO] at HT
          rw [← hMB, ← hMO] at HMK
          rw [← hTO] at hb1 hb2 hb3 hb4 hb5
          rw [← hMO] at hc1 hc2 hc3 hc4 hc5
          have EQ := Aside0.mk (And.intro hTB (And.intro hTO (And.intro hMB hMO)))
          clear hTB hTO hMB hMO
          obtain ⟨n0, n1, n2, n3, n4, n5⟩ := six_cells EV.out.p3
          go_wp2_with fail
          clear n0 n1 n2 n3 n4 n5
          refine (geom_TableAt.calls p1 P2 P3_ P4 P5 P6 x TB TO _ HT.out).mono ?_
          rintro e w7 ⟨rfl, hb⟩
          replace UU := Aside0.mk (used_kept UU.out (hb.block _ (used_lt UU.out)))
          replace EV := Aside0.mk (EV.out.below hb)
          clear hb
          obtain ⟨n0, n1, n2, n3, n4, n5⟩ := six_cells EV.out.p3
          go_wp2_with fail
          clear n0 n1 n2 n3 n4 n5
          refine (geom_MarksAt.calls p1 P2 P3_ P4 P5 P6 x MB MO _ HMK.out).mono ?_
          rintro e w8 ⟨rfl, hb⟩
          replace UU := Aside0.mk (used_kept UU.out (hb.block _ (used_lt UU.out)))
          replace EV := Aside0.mk (EV.out.below hb)
          have PT := place_table RR.out EV.out UU.out (kn HK.out (by decide)).1 CV.out XX.out.1 XX.out.2.1
          rw [← EQ.out.1, ← EQ.out.2.1] at PT
          have PTA := Aside0.mk PT
          clear hb PT UU EV
          go_wp2_with fail
          refine PTA.out.mono ?_
          rintro e w9 ⟨rfl, hU9, hE9⟩
          have PT := place_marks RR.out hE9 hU9 (kn HK.out (by decide)).2.1 CV.out XX.out.1 XX.out.2.1
          rw [← EQ.out.2.2.1, ← EQ.out.2.2.2] at PT
          have PTB := Aside0.mk PT
          clear PT hU9 hE9 PTA
          go_wp2_with fail
          refine PTB.out.mono ?_
          rintro e wA ⟨rfl, hUA, hEA⟩
          have UA := Aside0.mk hUA
          have EVA := Aside0.mk hEA
          clear hUA hEA PTB HT HMK hb1 hb2 hb3 hb4 hb5 hc1 hc2 hc3 hc4 hc5
          go_wp2_with fail
          refine (geom_Slots.calls cl _ _ (slot_facts C6.out).2.1).mono ?_
          rintro e wB ⟨rfl, hdr⟩
          have hb := drawn_below hdr
          replace UA := Aside0.mk (used_kept UA.out (hb.block _ (used_lt UA.out)))
          replace EVA := Aside0.mk (EVA.out.below hb)
          clear hb hdr
          go_wp2_with fail
          obtain ⟨SN, hSN⟩ : ∃ n, n = slotN cl := ⟨_, rfl⟩
          rw [← hSN]
          have NS := Aside0.mk hSN
          clear hSN
          go_loopg [112] SN (fun q v112 w' => ∃ (s : Nat), v112 = .int .i64 (s : Int) ∧ Aside0 (s + q = SN) ∧ Aside0 (Used w' gM (mH P2 P3_ P5 x (s * slotB cl) M) (1036 * k + 12 + s * slotB cl)) ∧ Aside0 (Env w w' w.heap.size g3 gB gM gr (quad a b c D) (six p1 P2 P3_ P4 P5 P6) es))
          case atStart => exact ⟨0, rfl, ⟨Nat.zero_add _⟩, ⟨inner0 UA.out⟩, EVA⟩
          case round =>
            clear UA EVA
            obtain ⟨s, rfl, HJs, UA, EVA⟩ := hrel
            by_cases hls : s < SN
            case pos =>
              have hge := (di_t hls).1
              have hge2 := (di_t hls).2
              have HN2 := Aside0.mk (st_n HJs.out hls).1
              have HM2 := Aside0.mk (st_n HJs.out hls).2
              have HS := Aside0.mk (show s < slotN cl from NS.out ▸ hls)
              have HA := Aside0.mk (slotAt_eq p1 P2 P3_ P4 P6 P5 x cl s (lay_small LL.out XX.out.1).2.2.1 (lay_small LL.out XX.out.1).2.2.2 C6.out HS.out)
              obtain ⟨SB, hSB⟩ : ∃ n, n = P5 + 4 * x + s * slotB cl / 256 := ⟨_, rfl⟩
              obtain ⟨SO, hSO⟩ : ∃ n, n = s * slotB cl % 256 := ⟨_, rfl⟩
              rw [← hSB, ← hSO] at HA
              have EQS := Aside0.mk (And.intro hSB hSO)
              clear hSB hSO hls HJs
              obtain ⟨n0, n1, n2, n3, n4, n5⟩ := six_cells EVA.out.p3
              go_wp2_with fail
              clear n0 n1 n2 n3 n4 n5
              refine (geom_SlotAt.calls p1 P2 P3_ P4 P5 P6 x cl s SB SO _ HA.out).mono ?_
              rintro e wC ⟨rfl, hb⟩
              replace UA := Aside0.mk (used_kept UA.out (hb.block _ (used_lt UA.out)))
              replace EVA := Aside0.mk (EVA.out.below hb)
              clear hb HA
              go_wp2_with fail
              refine (geom_SlotBytes.calls cl _ _ (slot_facts C6.out).1).mono ?_
              rintro e wD ⟨rfl, hdr⟩
              have hb := drawn_below hdr
              replace UA := Aside0.mk (used_kept UA.out (hb.block _ (used_lt UA.out)))
              replace EVA := Aside0.mk (EVA.out.below hb)
              have PT := place_heap RR.out EVA.out UA.out (kn2 HK.out (by decide) C6.out HS.out) CV.out XX.out.1 XX.out.2.1 C6.out HS.out
              rw [← EQS.out.1, ← EQS.out.2] at PT
              have PTA := Aside0.mk PT
              clear hb hdr PT UA EVA
              go_wp2_with fail
              refine PTA.out.mono ?_
              rintro e wE ⟨rfl, hUE, hEE⟩
              have UE := Aside0.mk (innerS hUE)
              have EE := Aside0.mk hEE
              clear hUE hEE PTA
              go_wp2_with fail
              go_roundg (gk - 1)
              case measure => exact HM2.out
              case rel => exact ⟨s + 1, stepv (Nat.lt_of_lt_of_le HS.out (Nat.le_trans (slot_facts C6.out).2.2.2.2 (by decide))), HN2, UE, EE⟩
            have hse : s = SN := en_k HJs.out hls
            have UF := Aside0.mk (inner1 C6.out (hse.trans NS.out) UA.out)
            have CF := Aside0.mk (show Cov P2 P3_ P5 D (es.take (k + 1)) (mH P2 P3_ P5 x 1024 M) from XX.out.2.2 ▸ cov_next CV.out XX.out.1)
            subst hse
            have hge : decide ((s : Int) < (s : Int)) = false := by simp
            clear hls
            go_wp2_with fail
            go_roundg (gout - 1)
            case measure => exact HM.out
            case rel => exact ⟨k + 1, mH P2 P3_ P5 x 1024 M, stepv (Nat.lt_of_lt_of_le HK.out (by decide)), HN, UF, CF, EVA⟩
      have hke : k = 2 := en_k HJ.out hlt
      subst hke
      have hgd : decide (((2 : Nat) : Int) < 2) = false := by simp
      clear hlt
      have GB := Aside0.mk EV.out.gb
      have hcB : wr.cell? ⟨gB, 0, none⟩ = some (.map (some gM)) := by rw [blk_cell GB.out]; rfl
      obtain ⟨DD, hown, hsz, _⟩ := UU.out
      go_wp2_with (at_len; refine wpList_len_own _ rfl _ 36 rfl 37 4 Try.underlying36 _ gM _ DD rfl hown ?_; rw [hsz])
      go_ret
      exact ⟨by simp, EV.out.kk⟩
theorem GeomApart (w : World) (a : Int) (_ : (Lit.int .i64 a).wf = true) (b : Int) (_ : (Lit.int .i64 b).wf = true) (c : Int) (_ : (Lit.int .i64 c).wf = true) (d : Int) (_ : (Lit.int .i64 d).wf = true)
    (e : Int) (he : (Lit.int .u8 e).wf = true) (f : Int) (hf : (Lit.int .u8 f).wf = true) (cc : Int) (hc : (Lit.int .u8 cc).wf = true) (co : Int) (ho : (Lit.int .u8 co).wf = true) :
    Calls Try.prog 6 #[.agg #[.int .i64 a, .int .i64 b, .int .i64 c, .int .i64 d], .int .u8 e, .int .u8 f, .int .u8 cc, .int .u8 co] w fun e w' => e = .returned (.bool true) ∧ Below w.heap.size w w' := by
  obtain ⟨E, rfl, hE⟩ := u8_nat he
  obtain ⟨F, rfl, hF⟩ := u8_nat hf
  obtain ⟨C, rfl, hC⟩ := u8_nat hc
  obtain ⟨O, rfl, hO⟩ := u8_nat ho
  exact apart_walk w a b c d E F C O hE hF hC hO
end Go.Proofs.Ythfjgheedingbaa.Pure
