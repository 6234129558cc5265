/- A block is read: walked. -/
import Derived.Test.YthnadkdfgckijaaDkI
import Derived.RangeFuncNested
import Derived.Stop.RegionWithIn
namespace Go.Proofs.Ythnadkdfgckijaa.Pure
open Go.RowKit Go.Proofs.Ythnadkdfgckijaa Go.Proofs.Ythnadkdfgckijaa.PAll Go.Proofs.Ythnadkdfgckijaa.Mem Go.Proofs.YthnadkdfgckijaaW.PrintWords Go.Proofs.YthnadkdfgckijaaW.PrintLast Go.Proofs.YthnadkdfgckijaaW.PrintMore
set_option linter.unusedVariables false
set_option linter.unusedSimpArgs false

/-- What was written last to a block, of what is pending. -/
def lastW (P : List (Int × List Int)) (i : Int) (d : List Int) : List Int := P.foldl (fun acc x => if x.1 = i then x.2 else acc) d
def readS (s : DS) (i : Int) : Int × List Int := if placeS s i ≠ 0 then (placeS s i, []) else (0, lastW s.P i (s.B.getD i.toNat []))
theorem lastW_none (P : List (Int × List Int)) (i : Int) (d : List Int) (h : ∀ x, x < P.length → (P.getD x (0, [])).1 ≠ i) : lastW P i d = d := by
  induction P generalizing d with
  | nil => rfl
  | cons a P ih =>
    unfold lastW
    rw [List.foldl_cons, if_neg (by have := h 0 (by simp); simpa using this)]
    exact ih d (fun x hx => by have := h (x + 1) (by simpa using hx); simpa using this)
theorem lastW_found (P : List (Int × List Int)) (i : Int) (d : List Int) (x : Nat) (hx : x < P.length) (h1 : (P.getD x (0, [])).1 = i) (h2 : ∀ y, x < y → y < P.length → (P.getD y (0, [])).1 ≠ i) : lastW P i d = (P.getD x (0, [])).2 := by
  induction P generalizing d x with
  | nil => simp at hx
  | cons a P ih =>
    unfold lastW
    rw [List.foldl_cons]
    cases x with
    | zero =>
      have h1' : a.1 = i := by simpa using h1
      rw [if_pos h1']
      have := lastW_none P i a.2 (fun y hy => by have := h2 (y + 1) (by omega) (by simpa using hy); simpa using this)
      unfold lastW at this
      rw [this]
      simp
    | succ x =>
      have := ih (d := if a.1 = i then a.2 else d) x (by simpa using hx) (by simpa using h1) (fun y hy hl => by have := h2 (y + 1) (by omega) (by simpa using hl); simpa using this)
      unfold lastW at this
      rw [this]
      simp
theorem down_split {N k x : Nat} {p : List Nat} (h : p ++ [x] = (down N).take k) (hk : k ≤ N) : x < N ∧ ∀ y, x < y → y < N → y ∈ p := by
  have hl : p.length + 1 = k := by have := congrArg List.length h; simp [down_len] at this; omega
  have hx : x + p.length + 1 = N := by
    have := down_take N p.length (N - p.length - 1) (by omega)
    rw [show p.length + 1 = k from hl, ← h] at this
    have := (List.append_inj' this rfl).2
    simp at this
    omega
  have hp : p = (down N).take p.length := by
    have := down_take N p.length x (by omega)
    rw [show p.length + 1 = k from hl, ← h] at this
    exact (List.append_inj' this rfl).1
  refine ⟨by omega, fun y h1 h2 => ?_⟩
  rw [hp]
  have hm : y ∈ (down N).take (N - y) := by
    have := down_take N (N - y - 1) y (by omega)
    rw [show N - y - 1 + 1 = N - y by omega] at this
    rw [this]
    simp
  have hle : N - y ≤ p.length := by omega
  rw [show (down N).take (N - y) = ((down N).take p.length).take (N - y) by rw [List.take_take, Nat.min_eq_left hle]] at hm
  exact List.mem_of_mem_take hm
theorem mem_down {N x : Nat} (h : x < N) : x ∈ down N := by simp [down, h]
theorem three_new (w : World) (o p q : Obj) : (((w.alloc o).alloc p).alloc q).heap[w.heap.size]? = some o ∧ (((w.alloc o).alloc p).alloc q).heap[w.heap.size + 1]? = some p ∧ (((w.alloc o).alloc p).alloc q).heap[w.heap.size + 1 + 1]? = some q := by
  have h3 := heap_new ((w.alloc o).alloc p) q
  have h2 := heap_new (w.alloc o) p
  rw [World.size_alloc] at h2 h3
  rw [World.size_alloc] at h3
  exact ⟨(Below.heap_alloc _ q w.heap.size (by simp; omega)).trans ((Below.heap_alloc _ p w.heap.size (by simp)).trans (heap_new w o)), (Below.heap_alloc _ q _ (by simp)).trans h2, h3⟩
theorem own_nil (w : World) (base : Nat) : Own w base none 0 [] := ⟨Nat.le_refl _, ⟨rfl, by decide, fun h => absurd h (by decide)⟩, fun h => absurd h (by decide)⟩
theorem clone_o {w : World} {A : Option Addr} {c n : Nat} {l : List Int} (hC : Kd.C (Kd.int .u8) w A l.length l) (hn : l.length = n) (hc : n ≤ c) (hl : n ≤ 140737488351232) :
    Calls Try.prog 55 #[.slice A n c] w fun e w' => ∃ Y d, e = .returned (.slice Y n d) ∧ Own w' w.heap.size Y d l ∧ Below w.heap.size w w' := by
  subst hn
  refine (bytes_Clone.calls A c l l w hC hc (by unfold bytes_Clone.f; rw [if_pos (by omega)])).mono ?_
  rintro e w' ⟨v, rfl, ho, hb⟩
  obtain ⟨Y, d, rfl, hO⟩ := own_of ho
  exact ⟨Y, d, rfl, hO, hb⟩
theorem wpIn_np {F : Fence} {n : Nat} {P : Program} {c : Code} {Q : Exit → Act → World → Prop} {a : Act} {w : World} (h : c.wpIn F n P (fun ex a w => match ex with | .normal => Q .normal a w | _ => False) a w) : c.wpIn F n P Q a w :=
  Code.wpIn_mono (fun e a w h => by cases e <;> first | exact h | exact h.elim) h
theorem own_blk {w : World} {base gy yd : Nat} {cur : List Value} {l : List Int} (hl : l.length = 256) (h1 : 256 ≤ yd) (h2 : base ≤ gy) (h3 : w.heap[gy]? = some (.cells (List.toArray cur) 5 (0, 0))) (h4 : cur.take 256 = encs (Value.int .u8) l) : Own w base (some ⟨gy, 0, none⟩) yd l :=
  ⟨by omega, blk_C (enc := Value.int .u8) (h1 := fun _ => rfl) h3 (by rw [List.drop_zero, hl]; exact h4) (by omega), fun _ => ⟨gy, cur, rfl, h2, h3, by rw [hl]; exact h4⟩⟩
/-- What the range holds; and what it leaves where it is left. -/
def RI (w w2 : World) (i : Int) (cI : Nat → Int) (pre : List Nat) (W : World) : Prop :=
  (∀ y ∈ pre, cI y ≠ i) ∧ W.heap[w.heap.size]? = some (.cells #[.int .i64 i] 3 (0, 0)) ∧ W.heap[w.heap.size + 1]? = some (.cells #[.slice none 0 0] 26 (0, 0)) ∧ W.heap[w.heap.size + 1 + 1]? = some (.cells #[.int .i64 0] 30 (0, 0)) ∧ Below w2.heap.size w2 W
def RX (w : World) (i : Int) (cI : Nat → Int) (cB : Nat → List Int) (c : Code) (pre : List Nat) (W : World) : Prop :=
  c = .ret ∧ ∃ (p : List Nat) (x gy : Nat) (cur : List Value) (yd : Nat), pre = p ++ [x] ∧ (∀ y ∈ p, cI y ≠ i) ∧ cI x = i ∧ W.heap[w.heap.size + 1]? = some (.cells #[.slice (some ⟨gy, 0, none⟩) 256 yd] 26 (0, 0)) ∧ W.heap[w.heap.size + 1 + 1]? = some (.cells #[.int .i64 0] 30 (0, 0)) ∧
    256 ≤ yd ∧ w.heap.size ≤ gy ∧ W.heap[gy]? = some (.cells (List.toArray cur) 5 (0, 0)) ∧ cur.take 256 = encs (Value.int .u8) (cB x) ∧ Below w.heap.size w W
theorem read_end {w W W1 : World} {D : Nat} {Y : Option Addr} {yd : Nat} {l : List Int} (hlt : w.heap.size + 1 + 1 + 1 ≤ W.heap.size) (hK : W.heap[D]? = some (.deferred (some []))) (hD : w.heap.size + 1 + 1 + 1 ≤ D) (hW : Below w.heap.size w W) (hO : Own W1 W.drew.heap.size Y yd l) (hb : Below W.drew.heap.size W.drew W1)
    (m2 : W1.heap[w.heap.size + 1]? = some (.cells #[.slice none 0 0] 26 (0, 0))) (m3 : W1.heap[w.heap.size + 1 + 1]? = some (.cells #[.int .i64 0] 30 (0, 0))) (x : Value) :
    (((W1.setCell ⟨w.heap.size + 1, 0, none⟩ x).setCell ⟨w.heap.size + 1 + 1, 0, none⟩ (.int .i64 0)).heap[D]? = some (.deferred (some []))) ∧
    Own ((((W1.setCell ⟨w.heap.size + 1, 0, none⟩ x).setCell ⟨w.heap.size + 1 + 1, 0, none⟩ (.int .i64 0))).putObj D (.deferred none)) w.heap.size Y yd l ∧
    Below w.heap.size w ((((W1.setCell ⟨w.heap.size + 1, 0, none⟩ x).setCell ⟨w.heap.size + 1 + 1, 0, none⟩ (.int .i64 0))).putObj D (.deferred none)) ∧
    ((((W1.setCell ⟨w.heap.size + 1, 0, none⟩ x).setCell ⟨w.heap.size + 1 + 1, 0, none⟩ (.int .i64 0))).putObj D (.deferred none)).cell? ⟨w.heap.size + 1, 0, none⟩ = some x ∧
    ((((W1.setCell ⟨w.heap.size + 1, 0, none⟩ x).setCell ⟨w.heap.size + 1 + 1, 0, none⟩ (.int .i64 0))).putObj D (.deferred none)).cell? ⟨w.heap.size + 1 + 1, 0, none⟩ = some (.int .i64 0) := by
  have hD1 : W1.heap[D]? = some (.deferred (some [])) := (hb.block D (blk_lt hK)).trans hK
  have q2 := blk_set m2 0 x
  have q3 := blk_set ((Below.heap_setCell W1 ⟨w.heap.size + 1, 0, none⟩ x (w.heap.size + 1 + 1) (by simp)).trans m3) 0 (.int .i64 0)
  have q2' := (Below.heap_setCell (W1.setCell ⟨w.heap.size + 1, 0, none⟩ x) ⟨w.heap.size + 1 + 1, 0, none⟩ (.int .i64 0) (w.heap.size + 1) (by simp)).trans q2
  have oth : ∀ k, w.heap.size + 1 + 1 + 1 ≤ k → ((W1.setCell ⟨w.heap.size + 1, 0, none⟩ x).setCell ⟨w.heap.size + 1 + 1, 0, none⟩ (.int .i64 0)).heap[k]? = W1.heap[k]? := fun k hk => (Below.heap_setCell _ ⟨w.heap.size + 1 + 1, 0, none⟩ (.int .i64 0) k (by show k ≠ w.heap.size + 1 + 1; omega)).trans (Below.heap_setCell W1 ⟨w.heap.size + 1, 0, none⟩ x k (by show k ≠ w.heap.size + 1; omega))
  obtain ⟨Z, hZ⟩ : ∃ Z, Z = (W1.setCell ⟨w.heap.size + 1, 0, none⟩ x).setCell ⟨w.heap.size + 1 + 1, 0, none⟩ (.int .i64 0) := ⟨_, rfl⟩
  have kb : Below w.heap.size w Z := by
    rw [hZ]
    exact ((hW.drew.trans (Below.mono hb (show w.heap.size ≤ W.drew.heap.size by show _ ≤ W.heap.size; omega))).setCell (p := ⟨w.heap.size + 1, 0, none⟩) (by show _ ≤ w.heap.size + 1; omega) _).setCell (p := ⟨w.heap.size + 1 + 1, 0, none⟩) (by show _ ≤ w.heap.size + 1 + 1; omega) _
  rw [← hZ] at q2' q3 oth ⊢
  have hDZ : Z.heap[D]? = some (.deferred (some [])) := (oth D hD).trans hD1
  have hgo := hgo_of hDZ
  have e2 := boxed_own q2' (grownBy_putObj' _ D (.deferred none)) hgo
  have e3 := boxed_own q3 (grownBy_putObj' _ D (.deferred none)) hgo
  have oZ : Own Z w.heap.size Y yd l := own_lower (own_kept hO (fun k hp hA => oth k (Nat.le_trans hlt (own_lt hO k hp hA).1))) (show w.heap.size ≤ W.heap.size by omega)
  refine ⟨hDZ, own_kept oZ (fun k hp hA => ?_), below_own kb (grownBy_putObj' _ D (.deferred none)) hgo (by omega), ?_, ?_⟩
  · obtain ⟨gk, cur, a1, a2, a3, a4⟩ := oZ.blk hp
    rw [a1] at hA
    injection hA with hA
    injection hA with hA
    subst hA
    rw [a3]
    exact boxed_own a3 (grownBy_putObj' _ D (.deferred none)) hgo
  · rw [blk_cell e2]; simp
  · rw [blk_cell e3]; simp
set_option maxRecDepth 100000 in
set_option maxHeartbeats 16000000 in
theorem dk_read {w : World} {g : Nat} {U : Nat → Prop} {s : DS} (h : DK w g U s) (i : Int) (hPl : s.P.length ≤ 1000000) :
    Calls Try.prog 19 #[.pointer (some ⟨g, 0, none⟩), .int .i64 i] w fun e w' => ∃ Y yd, e = .returned (.tuple #[.slice Y (readS s i).2.length yd, .int .i64 (readS s i).1]) ∧ Own w' w.heap.size Y yd (readS s i).2 ∧ Below w.heap.size w w' := by
  have PL := Aside0.mk hPl
  obtain ⟨rs, hrs⟩ : ∃ r, r = readS s i := ⟨_, rfl⟩
  rw [← hrs]
  unfold readS at hrs
  obtain ⟨dB, hdB⟩ : ∃ x, x = s.B.getD i.toNat [] := ⟨_, rfl⟩
  rw [← hdB] at hrs
  have DB := Aside0.mk hdB
  clear hdB
  have RS := Aside0.mk hrs
  clear hrs
  obtain ⟨n1, n2, n3⟩ := three_new w (.cells #[.int .i64 i] 3) (.cells #[.slice none 0 0] 26) (.cells #[.int .i64 0] 30)
  have hb0 := (((Below.refl w.heap.size w).alloc (Nat.le_refl _) (.cells #[.int .i64 i] 3)).alloc (by simp) (.cells #[.slice none 0 0] 26)).alloc (by simp; omega) (.cells #[.int .i64 0] 30)
  have hs0 : (((w.alloc (.cells #[.int .i64 i] 3)).alloc (.cells #[.slice none 0 0] 26)).alloc (.cells #[.int .i64 0] 30)).heap.size = w.heap.size + 1 + 1 + 1 := by simp
  obtain ⟨w0, hw0⟩ : ∃ x, x = ((w.alloc (.cells #[.int .i64 i] 3)).alloc (.cells #[.slice none 0 0] 26)).alloc (.cells #[.int .i64 0] 30) := ⟨_, rfl⟩
  rw [← hw0] at n1 n2 n3 hb0 hs0
  have D0 := Aside0.mk (h.below hb0)
  have N1 := Aside0.mk n1
  have N2 := Aside0.mk n2
  have N3 := Aside0.mk n3
  have K0 := Aside0.mk hb0
  have S0 := Aside0.mk hs0
  have W0 := Aside0.mk hw0
  clear h hPl n1 n2 n3 hb0 hs0 hw0
  refine (callsIn_wide (n := 4)).1 ?_
  refine callsIn_of_wp_marks Try.func19 rfl trivial ?_ rfl
  simp only [Try.ntmps19, List.size_toArray, List.length_cons, List.length_nil, Nat.reduceAdd, Nat.reduceSub, Array.replicate_succ, Array.replicate_zero, List.push_toArray, List.append_toArray, List.nil_append, List.cons_append]
  obtain ⟨x0, hx0⟩ : ∃ x : Value, x = .int .i64 i := ⟨_, rfl⟩
  gi_wp2_with fail
  rw [← W0.out]
  refine ⟨trivial, ((callsIn_wide (n := 4 - 1)).2 (dk_place D0.out i)).mono ?_⟩
  rintro e w1 ⟨rfl, hb⟩
  have D1 := Aside0.mk (D0.out.below hb)
  have G1 := Aside0.mk ((hb.block _ (blk_lt N1.out)).trans N1.out)
  have G2 := Aside0.mk ((hb.block _ (blk_lt N2.out)).trans N2.out)
  have G3 := Aside0.mk ((hb.block _ (blk_lt N3.out)).trans N3.out)
  have K1 := Aside0.mk (K0.out.trans (hb.mono K0.out.size))
  have S1 := Aside0.mk (show w.heap.size + 1 + 1 + 1 ≤ w1.heap.size from by rw [← S0.out]; exact hb.size)
  clear hb N1 N2 N3 K0 S0 W0 D0 hx0
  have hrs := RS.out
  by_cases hp : placeS s i = 0
  case neg =>
    rw [if_pos hp] at hrs
    obtain ⟨r, hr⟩ : ∃ r, r = placeS s i := ⟨_, rfl⟩
    rw [← hr] at hp hrs ⊢
    subst hrs
    have e1 : (r == 0) = false := by simpa using hp
    have e2 : (r != 0) = true := by simpa using hp
    have f2 := blk_frozen G2.out 0
    have f3 := blk_frozen G3.out 0
    have c2 : w1.cell? ⟨w.heap.size + 1, 0, none⟩ = some (.slice none 0 0) := by rw [blk_cell G2.out]; rfl
    have c3 : w1.cell? ⟨w.heap.size + 1 + 1, 0, none⟩ = some (.int .i64 0) := by rw [blk_cell G3.out]; rfl
    clear hp hr RS
    gi_wp2_with fail
    have q2 := (blk_set G2.out 0 (.slice none 0 0))
    have q3 := (blk_set ((Below.heap_setCell w1 ⟨w.heap.size + 1, 0, none⟩ (.slice none 0 0) (w.heap.size + 1 + 1) (by simp)).trans G3.out) 0 (.int .i64 r))
    have q2' := (Below.heap_setCell (w1.setCell ⟨w.heap.size + 1, 0, none⟩ (.slice none 0 0)) ⟨w.heap.size + 1 + 1, 0, none⟩ (.int .i64 r) (w.heap.size + 1) (by simp)).trans q2
    have e4 : ((w1.setCell ⟨w.heap.size + 1, 0, none⟩ (.slice none 0 0)).setCell ⟨w.heap.size + 1 + 1, 0, none⟩ (.int .i64 r)).cell? ⟨w.heap.size + 1, 0, none⟩ = some (.slice none 0 0) := by rw [blk_cell q2']; rfl
    have e5 : ((w1.setCell ⟨w.heap.size + 1, 0, none⟩ (.slice none 0 0)).setCell ⟨w.heap.size + 1 + 1, 0, none⟩ (.int .i64 r)).cell? ⟨w.heap.size + 1 + 1, 0, none⟩ = some (.int .i64 r) := by rw [blk_cell q3]; rfl
    refine ⟨.tuple #[.slice none 0 0, .int .i64 r], ?_, ⟨none, 0, rfl, own_nil _ _, (K1.out.setCell (p := ⟨w.heap.size + 1, 0, none⟩) (by show _ ≤ w.heap.size + 1; omega) _).setCell (p := ⟨w.heap.size + 1 + 1, 0, none⟩) (by show _ ≤ w.heap.size + 1 + 1; omega) _⟩⟩
    simp [results, Try.f19, go_sem, e4, e5]
  rw [if_neg (by simpa using hp)] at hrs
  rw [hp]
  subst hrs
  obtain ⟨lt, ug, pen, pos, A, Ak, c, ck, vP, FB, FW, FK, h1, h2, h3, h4, h5, h6, h7, h8⟩ := D1.out
  obtain ⟨AP, cP, hvP, hcP, hPF⟩ := R_own h3
  subst hvP
  obtain ⟨z0, z1, z2, z3, z4, z5⟩ := dk_cells h1
  have IP := Aside0.mk (placeS_ok hp)
  obtain ⟨N, hN⟩ : ∃ N, N = s.P.length := ⟨_, rfl⟩
  have hall : ∀ x, ∃ f : Option Addr × Nat, x < N → ∃ ad, AP = some ad ∧ w1.cell? (ad.add (x * 2)) = some (.int .i64 (s.P.getD x (0, [])).1) ∧ w1.cell? ⟨(ad.add (x * 2)).block, (ad.add (x * 2)).off + 1, none⟩ = some (.slice f.1 256 f.2) ∧ 256 ≤ f.2 ∧ Kd.F (Kd.int .u8) w1 FW f.1 256 (s.P.getD x (0, [])).2 ∧ (s.P.getD x (0, [])).2.length = 256 ∧ FW ad.block := by
    intro x
    by_cases hx : x < N
    · have hx' : x < s.P.length := hN ▸ hx
      obtain ⟨ad, Ab, cb, a1, a2, a3, a4, a5⟩ := pen_at hPF hx'
      have hl := (pen _ (List.getElem_mem hx')).2.2.1
      have e : s.P.getD x (0, []) = s.P[x] := by rw [List.getD_eq_getElem?_getD, List.getElem?_eq_getElem hx']; rfl
      rw [hl] at a3 a4 a5
      obtain ⟨ad', cs', b1, b2, b3, b4, b5⟩ := Kd.F_get hPF (0, []) (x : Int) (by omega) (by omega)
      rw [a1] at b1
      injection b1 with b1
      subst b1
      exact ⟨(Ab, cb), fun _ => ⟨ad, a1, by rw [e]; exact a2, a3, a4, by rw [e]; exact a5, by rw [e]; exact hl, b5 (by decide)⟩⟩
    · exact ⟨(none, 0), fun h => absurd h hx⟩
  obtain ⟨f, hf⟩ := Classical.axiomOfChoice hall
  obtain ⟨ix, hix⟩ : ∃ ix : Nat → Nat, ix = fun x => if x < N then x else 0 := ⟨_, rfl⟩
  have hix1 : ∀ x, 0 < N → ix x < N := fun x h => by rw [hix]; show (if x < N then x else 0) < N; split <;> omega
  have hix2 : ∀ x, x < N → ix x = x := fun x h => by rw [hix]; exact if_pos h
  obtain ⟨cI, hcI⟩ : ∃ cI : Nat → Int, cI = fun x => (s.P.getD (ix x) (0, [])).1 := ⟨_, rfl⟩
  obtain ⟨cB, hcB⟩ : ∃ cB : Nat → List Int, cB = fun x => (s.P.getD (ix x) (0, [])).2 := ⟨_, rfl⟩
  obtain ⟨cA, hcA⟩ : ∃ cA : Nat → Option Addr, cA = fun x => (f (ix x)).1 := ⟨_, rfl⟩
  obtain ⟨cC, hcC⟩ : ∃ cC : Nat → Nat, cC = fun x => (f (ix x)).2 := ⟨_, rfl⟩
  have ROW := Aside0.mk (show 0 < N → ∀ x, 256 ≤ cC x ∧ Kd.F (Kd.int .u8) w1 FW (cA x) 256 (cB x) ∧ (cB x).length = 256 from fun h x => by
    obtain ⟨ad, a1, a2, a3, a4, a5, a6, a7⟩ := hf (ix x) (hix1 x h)
    rw [hcC, hcA, hcB]
    exact ⟨a4, a5, a6⟩)
  have CEL := Aside0.mk (show ∀ x, x < N → ∃ ad, AP = some ad ∧ FW ad.block ∧ w1.cell? (ad.add (x * 2)) = some (.int .i64 (cI x)) ∧ w1.cell? ⟨(ad.add (x * 2)).block, (ad.add (x * 2)).off + 1, none⟩ = some (.slice (cA x) 256 (cC x)) from fun x h => by
    obtain ⟨ad, a1, a2, a3, a4, a5, a6, a7⟩ := hf x h
    rw [hcI, hcA, hcC]
    simp only [hix2 x h]
    exact ⟨ad, a1, a7, a2, a3⟩)
  have CI := Aside0.mk (show ∀ x, x < N → cI x = (s.P.getD x (0, [])).1 ∧ cB x = (s.P.getD x (0, [])).2 from fun x h => by rw [hcI, hcB]; simp only [hix2 x h]; exact ⟨trivial, trivial⟩)
  have FL := Aside0.mk (show ∀ k, FW k → k < w1.heap.size from fun k q => lt k (h7 k q).1)
  have GA := Aside0.mk h1
  have RA := Aside0.mk h2
  have BL := Aside0.mk (show ∀ k, FB k → k < w1.heap.size from fun k q => lt k (h6 k q).1)
  have NP := Aside0.mk hN
  clear hall hf hix1 hix2 hcI hcB hcA hcC hix lt ug pen pos h1 h2 h3 h4 h5 h6 h7 h8 hPF hp D1 RS hN
  gi_wp2_with fail
  rw [← NP.out]
  refine ⟨trivial, ((callsIn_wide (n := 4 - 1)).2 (back_c _ _ _ _)).mono ?_⟩
  rintro e w2 ⟨gb, rfl, hbx, hgb, hb⟩
  have B2 := Aside0.mk hb
  have BX := Aside0.mk hbx
  have GB := Aside0.mk hgb
  replace G1 := Aside0.mk ((hb.block _ (blk_lt G1.out)).trans G1.out)
  replace G2 := Aside0.mk ((hb.block _ (blk_lt G2.out)).trans G2.out)
  replace G3 := Aside0.mk ((hb.block _ (blk_lt G3.out)).trans G3.out)
  have K2 := Aside0.mk (K1.out.trans (hb.mono K1.out.size))
  clear hb hbx hgb z0 z1 z2 z3 z4 z5 K1
  gi_wp2_with fail
  have LT := Aside0.mk (show w.heap.size + 1 + 1 + 1 ≤ w2.heap.size from Nat.le_trans S1.out B2.out.size)
  have HST := Aside0.mk (go87_stops 3 (by omega) N cP AP cI cA cC gb (fun q => w2.heap.size ≤ q) w2 (by rw [NP.out]; exact PL.out) BX.out (Nat.not_le.2 BX.out.lt) (fun x hx => by
    obtain ⟨ad, a1, a2, a3, a4⟩ := CEL.out x hx
    have hlt := FL.out _ a2
    have hbk := B2.out.block ad.block hlt
    refine ⟨ad, a1, Nat.lt_of_lt_of_le hlt B2.out.size, Nat.not_le.2 (Nat.lt_of_lt_of_le hlt B2.out.size), (World.cell?_of_block (by rw [add_block]; exact hbk)).trans a3, (World.cell?_of_block (by show w2.heap[(ad.add (x * 2)).block]? = _; rw [add_block]; exact hbk)).trans a4⟩))
  refine wpIn_rangeFunc_ownH rfl (by omega) (gf := 87) (lb := #[.pointer (some ⟨gb, 0, none⟩)]) rfl trivial (enters_of Try.func87 (by kernel_rfl) rfl) HST.out
    (fun h k => h.then_ k (fun _ h => .inl h)) (fun W l o o' hl ho _ _ => Kept.of_grown (grownBy_putObj' W l o') (Kept.refl W _) (fun q e => by cases e; exact .inl hl)) (Below.refl _ _) (fun _ => rfl)
    (RI w w2 i cI) (RX w i cI cB) ?own ?ownx ?start
    (fun x a' W' => ∃ g8, a' = { tmps := #[.pointer (some ⟨g, 0, none⟩), .int .i64 i, undef, .pointer (some ⟨w.heap.size, 0, none⟩), .pointer (some ⟨w.heap.size + 1, 0, none⟩), .pointer (some ⟨w.heap.size + 1 + 1, 0, none⟩), .int .i64 0, undef, .pointer (some ⟨g8, 0, none⟩), .pointer (some ⟨g, 0, none⟩), .int .i64 i, .int .i64 0, .int .i64 0, .bool false, undef, .pointer (some ⟨g, 0, none⟩), .pointer (some ⟨g, 0, none⟩), .pointer (some ⟨g, 1, none⟩), .slice AP N cP, .func (.func 87) #[] #[.pointer (some ⟨gb, 0, none⟩)], .int .i64 (x : Int), .agg #[.int .i64 (cI x), .slice (cA x) 256 (cC x)], undef, undef, undef, undef, undef, undef, undef, undef, undef, undef, undef, undef, undef, undef, undef], defers := [] } ∧ W'.heap[g8]? = some (.cells #[.int .i64 (cI x), .slice (cA x) 256 (cC x)] 101 (0, 0)) ∧ w2.heap.size ≤ g8) ?owna ?assign ?body ?done ?stop
  case own =>
    rintro p X Y row ⟨h0, h1, h2, h3, h4⟩ hg hr
    exact ⟨h0, boxed_own h1 hg hr, boxed_own h2 hg hr, boxed_own h3 hg hr, below_own h4 hg hr (Nat.le_refl _)⟩
  case ownx =>
    rintro c p X Y row ⟨hc, q, x, gy, cur, yd, h1, h2, h3, h4, h5, h6, h7, h8, h9, h10⟩ hg hr
    exact ⟨hc, q, x, gy, cur, yd, h1, h2, h3, boxed_own h4 hg hr, boxed_own h5 hg hr, h6, h7, boxed_own h8 hg hr, h9, below_own h10 hg hr K2.out.size⟩
  case start => exact ⟨(fun y hy => by cases hy), G1.out, G2.out, G3.out, Below.refl _ _⟩
  case owna =>
    rintro x a' _ X Y row ⟨g8, e, h1, h2⟩ hg hr
    exact ⟨g8, e, boxed_own h1 hg hr, h2⟩
  case assign =>
    rintro l pre x W K ⟨h0, h1, h2, h3, h4⟩ hK
    have hbn := (Below.refl W.heap.size W).alloc (Nat.le_refl _) (.cells #[.int .i64 (cI x), .slice (cA x) 256 (cC x)] 101)
    have HKA := Aside0.mk (hK { tmps := #[.pointer (some ⟨g, 0, none⟩), .int .i64 i, undef, .pointer (some ⟨w.heap.size, 0, none⟩), .pointer (some ⟨w.heap.size + 1, 0, none⟩), .pointer (some ⟨w.heap.size + 1 + 1, 0, none⟩), .int .i64 0, undef, .pointer (some ⟨W.heap.size, 0, none⟩), .pointer (some ⟨g, 0, none⟩), .int .i64 i, .int .i64 0, .int .i64 0, .bool false, undef, .pointer (some ⟨g, 0, none⟩), .pointer (some ⟨g, 0, none⟩), .pointer (some ⟨g, 1, none⟩), .slice AP N cP, .func (.func 87) #[] #[.pointer (some ⟨gb, 0, none⟩)], .int .i64 (x : Int), .agg #[.int .i64 (cI x), .slice (cA x) 256 (cC x)], undef, undef, undef, undef, undef, undef, undef, undef, undef, undef, undef, undef, undef, undef, undef], defers := [] } _ ((keeps_below hbn).from _) (Kept.of_below hbn _) ⟨h0, (hbn.block _ (blk_lt h1)).trans h1, (hbn.block _ (blk_lt h2)).trans h2, (hbn.block _ (blk_lt h3)).trans h3, h4.trans (hbn.mono h4.size)⟩ ⟨W.heap.size, rfl, heap_new W _, h4.size⟩)
    clear hK h0 h1 h2 h3 h4 hbn
    gi_wp2_with ((rw [Oper.semAt_eq _ _ _ (fun c h => by cases h)]; go_simp; try go_bits))
    exact HKA.out
  case body =>
    rintro l pre x a' W hl hrec ⟨h0, h1, h2, h3, h4⟩ ⟨g8, rfl, h8, h9⟩ hlen
    have H0 := Aside0.mk h0
    have H1 := Aside0.mk h1
    have H2 := Aside0.mk h2
    have H3 := Aside0.mk h3
    have H4 := Aside0.mk h4
    have H8 := Aside0.mk h8
    have NZ := Aside0.mk (show 0 < N from Nat.lt_of_le_of_lt (Nat.zero_le _) hlen)
    have c3 : W.cell? ⟨w.heap.size, 0, none⟩ = some (.int .i64 i) := by rw [blk_cell h1]; rfl
    obtain ⟨y0, y1⟩ := two_cells h8
    clear h0 h1 h2 h3 h4 h8 hlen hrec
    by_cases hx : cI x = i
    case neg =>
      have e1 : (cI x == i) = false := by simpa using hx
      have HX := Aside0.mk hx
      clear hx
      gi_wp2_with ((rw [Oper.semAt_eq _ _ _ (fun c h => by cases h)]; go_simp; try go_bits))
      refine ⟨KeepsFrom.refl _ _, Kept.refl _ _, fun y hy => ?_, H1.out, H2.out, H3.out, H4.out⟩
      rcases List.mem_append.1 hy with q | q
      · exact H0.out y q
      · rw [List.mem_singleton.1 q]
        exact HX.out
    have e1 : (cI x == i) = true := by simpa using hx
    have HX := Aside0.mk hx
    clear hx
    obtain ⟨r1, r2, r3⟩ := ROW.out NZ.out x
    have RC := Aside0.mk (show Kd.C (Kd.int .u8) W (cA x) (cB x).length (cB x) from by rw [r3]; exact Kd.F_now (Kd.F_below (Kd.F_below r2 B2.out) (H4.out.mono (Nat.le_refl _))))
    have R3 := Aside0.mk r3
    have R1 := Aside0.mk r1
    clear r1 r2 r3
    gi_wp2_with ((rw [Oper.semAt_eq _ _ _ (fun c h => by cases h)]; go_simp; try go_bits))
    refine ⟨trivial, CallsIn.inRound l (((callsIn_wide).2 (clone_o RC.out R3.out R1.out (by decide))).mono ?_)⟩
    rintro e W1 ⟨Y, yd, rfl, hO, hb1⟩
    obtain ⟨gy, cur, hYe, hgy, hcur, htk⟩ := hO.blk (by rw [R3.out]; decide)
    subst hYe
    rw [R3.out] at htk
    have hcap := hO.cap
    rw [R3.out] at hcap
    have YO := Aside0.mk (And.intro hcap (And.intro hgy (And.intro hcur htk)))
    have BB := Aside0.mk hb1
    have M2 := Aside0.mk ((hb1.block _ (blk_lt H2.out)).trans H2.out)
    have M3 := Aside0.mk ((hb1.block _ (blk_lt H3.out)).trans H3.out)
    have f2 := blk_frozen M2.out 0
    have f3 := blk_frozen M3.out 0
    have c4 : W1.cell? ⟨w.heap.size + 1, 0, none⟩ = some (.slice none 0 0) := by rw [blk_cell M2.out]; rfl
    have c5 : W1.cell? ⟨w.heap.size + 1 + 1, 0, none⟩ = some (.int .i64 0) := by rw [blk_cell M3.out]; rfl
    clear hO hgy hcur htk hcap hb1 y0 y1 c3
    gi_wp2_with ((rw [Oper.semAt_eq _ _ _ (fun c h => by cases h)]; go_simp; try go_bits))
    have q2 := blk_set M2.out 0 (.slice (some ⟨gy, 0, none⟩) 256 yd)
    have q3 := blk_set ((Below.heap_setCell W1 ⟨w.heap.size + 1, 0, none⟩ (.slice (some ⟨gy, 0, none⟩) 256 yd) (w.heap.size + 1 + 1) (by simp)).trans M3.out) 0 (.int .i64 0)
    have q2' := (Below.heap_setCell (W1.setCell ⟨w.heap.size + 1, 0, none⟩ (.slice (some ⟨gy, 0, none⟩) 256 yd)) ⟨w.heap.size + 1 + 1, 0, none⟩ (.int .i64 0) (w.heap.size + 1) (by simp)).trans q2
    obtain ⟨o1, o2, o3, o4⟩ := YO.out
    have hgW : w.heap.size + 1 + 1 + 1 ≤ gy := Nat.le_trans LT.out (Nat.le_trans H4.out.size o2)
    have q4 := (Below.heap_setCell (W1.setCell ⟨w.heap.size + 1, 0, none⟩ (.slice (some ⟨gy, 0, none⟩) 256 yd)) ⟨w.heap.size + 1 + 1, 0, none⟩ (.int .i64 0) gy (by show gy ≠ w.heap.size + 1 + 1; omega)).trans ((Below.heap_setCell W1 ⟨w.heap.size + 1, 0, none⟩ (.slice (some ⟨gy, 0, none⟩) 256 yd) gy (by show gy ≠ w.heap.size + 1; omega)).trans o3)
    refine ⟨((keeps_below BB.out).trans ((KeepsOthers.setCell _ _ _).trans (KeepsOthers.setCell _ _ _))).from _, rfl, pre, x, gy, cur, yd, rfl, H0.out, HX.out, ?_, ?_, o1, by omega, q4, o4, ?_⟩
    · simpa using q2'
    · simpa using q3
    · exact (((K2.out.trans (H4.out.mono K2.out.size)).trans (BB.out.mono (Nat.le_trans K2.out.size H4.out.size))).setCell (p := ⟨w.heap.size + 1, 0, none⟩) (by show _ ≤ w.heap.size + 1; omega) _).setCell (p := ⟨w.heap.size + 1 + 1, 0, none⟩) (by show _ ≤ w.heap.size + 1 + 1; omega) _
  case done =>
    rintro D xs W hD rfl ⟨h0, h1, h2, h3, h4⟩ hK
    have hno : lastW s.P i dB = dB := lastW_none _ _ _ (fun x hx => by
      have hxN : x < N := by rw [NP.out]; exact hx
      rw [← (CI.out x hxN).1]
      exact h0 x (mem_down hxN))
    have H1 := Aside0.mk h1
    have H2 := Aside0.mk h2
    have H3 := Aside0.mk h3
    have H4 := Aside0.mk h4
    have HKK := Aside0.mk hK
    have HDD := Aside0.mk hD
    have NO := Aside0.mk hno
    have GW := Aside0.mk ((h4.block _ (Nat.lt_of_lt_of_le (blk_lt GA.out) B2.out.size)).trans ((B2.out.block _ (blk_lt GA.out)).trans GA.out))
    have RW := Aside0.mk ((RA.out.below B2.out).below (h4.mono (Nat.le_refl _)))
    clear h0 h1 h2 h3 h4 hK hD hno
    obtain ⟨ok, gB, gs, cs, cur, hAe, q2, q3, q4, q5, q6⟩ := RW.out
    subst hAe
    obtain ⟨t1, t2, t3, t4, bc, t5, t6⟩ := q5 i.toNat (by have := IP.out; omega)
    rw [← DB.out] at t6
    obtain ⟨I, hI⟩ : ∃ I, I = i.toNat := ⟨_, rfl⟩
    rw [← hI] at t1 t2 t3 t4 t5
    have hiI : i = (I : Int) := by have := IP.out; omega
    have IL := Aside0.mk (show I < s.B.length by have := IP.out; omega)
    have LD := Aside0.mk (show dB.length = 256 from by rw [DB.out]; exact (getD_ok ok (by have := IP.out; omega)).1)
    have OC := Aside0.mk (show Kd.C (Kd.int .u8) W.drew (some ⟨gs I, 0, none⟩) dB.length dB from blk_C (enc := Value.int .u8) (h1 := fun _ => rfl) (show W.drew.heap[gs I]? = _ from t5) (by rw [List.drop_zero, LD.out]; exact t6) (by rw [LD.out]; decide))
    have TC := Aside0.mk t2
    obtain ⟨z0, z1, z2, z3, z4, z5⟩ := dk_cells GW.out
    have c3 : W.cell? ⟨w.heap.size, 0, none⟩ = some (.int .i64 i) := by rw [blk_cell H1.out]; rfl
    have cB1 : W.cell? ⟨gB, I, none⟩ = some (.slice (some ⟨gs I, 0, none⟩) 256 (cs I)) := by rw [blk_cell q4]; simpa using t1
    subst hiI
    have hIL := IL.out
    have f2 := blk_frozen H2.out 0
    have f3 := blk_frozen H3.out 0
    clear ok q2 q3 q4 q5 q6 t1 t2 t3 t4 t5 t6 hI z1 z2 z3 z4 z5
    gi_wp2_with fail
    refine wpIn_np ?_
    gi_region_with (first | (refine ⟨trivial, ?_⟩; gi_at_call 55; refine ((callsIn_wide).2 (clone_o OC.out LD.out TC.out (by decide))).mono ?_; rintro e W1 ⟨Y, yd, rfl, hO, hb1⟩; have YO := Aside0.mk hO; have BB := Aside0.mk hb1; have M2 := Aside0.mk ((hb1.block _ (blk_lt H2.out)).trans H2.out); have M3 := Aside0.mk ((hb1.block _ (blk_lt H3.out)).trans H3.out); clear hO hb1 z0 c3 cB1 f2 f3; have f2 := blk_frozen M2.out 0; have f3 := blk_frozen M3.out 0; have c4 : W1.cell? ⟨w.heap.size + 1, 0, none⟩ = some (.slice none 0 0) := (by rw [blk_cell M2.out]; rfl); have c5 : W1.cell? ⟨w.heap.size + 1 + 1, 0, none⟩ = some (.int .i64 0) := (by rw [blk_cell M3.out]; rfl)))
    all_goals (show Exit.then _ _ _ _ _)
    all_goals (gi_wp2_with fail)
    all_goals
      obtain ⟨y1, y2, y3, y4, y5⟩ := read_end (w := w) (W := W) (Nat.le_trans LT.out H4.out.size) HKK.out (Nat.le_trans LT.out HDD.out) (K2.out.trans (H4.out.mono K2.out.size)) YO.out BB.out M2.out M3.out (.slice Y 256 yd)
      refine ⟨by simp, .inl ⟨_, _, rfl, run_takeDeferred y1, ?_⟩⟩
      refine ⟨.tuple #[.slice Y 256 yd, .int .i64 0], ?_, ⟨Y, yd, by rw [NO.out, LD.out], by rw [NO.out]; exact y2, y3⟩⟩
      clear y1 y2 y3
      simp [results, Try.f19, go_sem, y4, y5]
  case stop =>
    rintro D c pre W hD ⟨k, hk, rfl⟩ ⟨rfl, p, x, gy, cur, yd, hpx, hp, hx, b2, b3, o1, o2, o3, o4, kb⟩ hK
    obtain ⟨hxN, hall⟩ := down_split hpx.symm hk
    have hval : lastW s.P i dB = cB x := by
      rw [(CI.out x hxN).2]
      refine lastW_found _ _ _ x (by rw [← NP.out]; exact hxN) (by rw [← (CI.out x hxN).1]; exact hx) (fun y hy hyl => ?_)
      have hyN : y < N := by rw [NP.out]; exact hyl
      rw [← (CI.out y hyN).1]
      exact hp y (hall y hy hyN)
    have hlen : (cB x).length = 256 := (ROW.out (by omega) x).2.2
    have hgo := hgo_of hK
    have e2 := boxed_own b2 (grownBy_putObj' _ D (.deferred none)) hgo
    have e3 := boxed_own b3 (grownBy_putObj' _ D (.deferred none)) hgo
    have eo := boxed_own o3 (grownBy_putObj' _ D (.deferred none)) hgo
    have kb2 := below_own kb (grownBy_putObj' _ D (.deferred none)) hgo (Nat.le_trans K2.out.size hD)
    have c2 : (W.putObj D (.deferred none)).cell? ⟨w.heap.size + 1, 0, none⟩ = some (.slice (some ⟨gy, 0, none⟩) 256 yd) := by rw [blk_cell e2]; rfl
    have c3 : (W.putObj D (.deferred none)).cell? ⟨w.heap.size + 1 + 1, 0, none⟩ = some (.int .i64 0) := by rw [blk_cell e3]; rfl
    have VV := Aside0.mk (And.intro hval hlen)
    have OB := Aside0.mk (own_blk hlen o1 o2 eo o4)
    clear hpx hp hx b2 b3 o1 o2 o3 o4 kb hxN hall hval hlen hgo e2 e3 eo
    gi_wp2_with fail
    refine ⟨by simp, .inl ⟨_, _, rfl, run_takeDeferred hK, ?_⟩⟩
    refine ⟨.tuple #[.slice (some ⟨gy, 0, none⟩) 256 yd, .int .i64 0], ?_, ⟨some ⟨gy, 0, none⟩, yd, by rw [VV.out.1, VV.out.2], by rw [VV.out.1]; exact OB.out, kb2⟩⟩
    simp [results, Try.f19, go_sem, c2, c3]
end Go.Proofs.Ythnadkdfgckijaa.Pure
