/- A super's block, in plain words; the contracts of numbers, sums and equal bytes. -/
import Derived.Test.YtojolpamgijcbaaSupC
import Derived.Test.YtojolpamgijcbaaSealed
import Derived.ArgAppend
namespace Go.Proofs.Ytojolpamgijcbaa.Pure
open Go.RowKit Go.Proofs.Ytojolpamgijcbaa Go.Proofs.Ytojolpamgijcbaa.PAll Go.Proofs.Ytojolpamgijcbaa.PGt Go.Proofs.Ytojolpamgijcbaa.Mem Go.Proofs.YtojolpamgijcbaaW.PrintWords Go.Proofs.YtojolpamgijcbaaW.PrintLast Go.Proofs.YtojolpamgijcbaaW.PrintMore
set_option linter.unusedVariables false
set_option linter.unusedSimpArgs false

/-- A row's bytes, and if it has any, the block of the call's own in which it lies. -/
structure Own (w : World) (base : Nat) (A : Option Addr) (c : Nat) (l : List Int) : Prop where
  cap : l.length ≤ c
  C : Kd.C (Kd.int .u8) w A l.length l
  blk : 0 < l.length → ∃ g cur, A = some ⟨g, 0, none⟩ ∧ base ≤ g ∧ w.heap[g]? = some (.cells (List.toArray cur) 5 (0, 0)) ∧ cur.take l.length = encs (Value.int .u8) l
theorem own_of {w : World} {base : Nat} {ok : Nat → Prop} {v : Value} {l : List Int} (h : Kd.R (Kd.int .u8) 5 w base ok v l) : ∃ A c, v = .slice A l.length c ∧ Own w base A c l := by
  obtain ⟨A, c, rfl, hc, hC⟩ := Kd.R_reads h
  refine ⟨A, c, rfl, hc, hC, fun hp => ?_⟩
  obtain ⟨g, cap, cur, hv, hb, _, hh, hn, hm, hs, ht⟩ := row_blk (enc := Value.int .u8) (h1 := fun _ => rfl) h hp
  injection hv with h1 h2 h3
  exact ⟨g, cur, h1, hb, hh, ht⟩
theorem own_below {w w1 : World} {base : Nat} {A : Option Addr} {c : Nat} {l : List Int} (h : Own w base A c l) (hb : Below w.heap.size w w1) : Own w1 base A c l :=
  ⟨h.cap, Kd.C_below h.C hb, fun hp => by
    obtain ⟨g, cur, h1, h2, h3, h4⟩ := h.blk hp
    exact ⟨g, cur, h1, h2, (hb.block _ (blk_lt h3)).trans h3, h4⟩⟩
theorem own_lower {w : World} {b b0 : Nat} {A : Option Addr} {c : Nat} {l : List Int} (h : Own w b A c l) (hb : b0 ≤ b) : Own w b0 A c l := ⟨h.cap, h.C, fun hp => by
  obtain ⟨g, cur, h1, h2, h3⟩ := h.blk hp
  exact ⟨g, cur, h1, Nat.le_trans hb h2, h3⟩⟩
theorem own_lt {w : World} {base : Nat} {A : Option Addr} {c : Nat} {l : List Int} (h : Own w base A c l) : ∀ g, 0 < l.length → A = some ⟨g, 0, none⟩ → base ≤ g ∧ g < w.heap.size := fun g hp hA => by
  obtain ⟨g', cur, h1, h2, h3, h4⟩ := h.blk hp
  rw [hA] at h1
  injection h1 with h1
  injection h1 with h1
  subst h1
  exact ⟨h2, blk_lt h3⟩
theorem own_kept {w w1 : World} {base : Nat} {A : Option Addr} {c : Nat} {l : List Int} (h : Own w base A c l) (hk : ∀ g, 0 < l.length → A = some ⟨g, 0, none⟩ → w1.heap[g]? = w.heap[g]?) : Own w1 base A c l := by
  refine ⟨h.cap, ?_, fun hp => ?_⟩
  · rcases Nat.eq_zero_or_pos l.length with h0 | hp
    · exact ⟨rfl, h.C.2.1, fun h1 => absurd h1 (by omega)⟩
    · obtain ⟨g, cur, h1, h2, h3, h4⟩ := h.blk hp
      rw [h1]
      exact blk_C (enc := Value.int .u8) (h1 := fun _ => rfl) ((hk g hp h1).trans h3) (by simpa using h4) h.C.2.1
  · obtain ⟨g, cur, h1, h2, h3, h4⟩ := h.blk hp
    exact ⟨g, cur, h1, h2, (hk g hp h1).trans h3, h4⟩
theorem C_none (w : World) : Kd.C (Kd.int .u8) w none ([] : List Int).length [] := ⟨rfl, by decide, fun h => absurd h (by decide)⟩
theorem own_nil (w : World) (base : Nat) : Own w base none 0 [] := ⟨Nat.le_refl _, C_none w, fun h => absurd h (by decide)⟩
theorem drawn_below {w w' : World} (h : Drawn0 w w') : Below w.heap.size w w' := by
  obtain ⟨n, rfl⟩ := h.out
  exact pw_below_drewN (Below.refl _ _) n
def magic : List Int := [97, 116, 116, 105, 99, 32, 49, 10]
/-- What stands ahead of a super's noughts. -/
def supHd (a0 a1 a2 a3 a4 a5 : Int) : List Int := magic ++ numL 8 a0.toNat ++ numL 4 a1.toNat ++ numL 4 a2.toNat ++ numL 4 a3.toNat ++ numL 4 a4.toNat ++ numL 8 a5.toNat
def supS (a0 a1 a2 a3 a4 a5 : Int) : List Int := supHd a0 a1 a2 a3 a4 a5 ++ List.replicate 20 0
/-- A super's block. -/
def supB (a0 a1 a2 a3 a4 a5 : Int) : List Int := sealA (supS a0 a1 a2 a3 a4 a5) ++ List.replicate 192 0
section
variable {w : World} {A B : Option Addr} {c d : Nat} {l m : List Int}
theorem num_c (n : Nat) (v : Int) (h0 : 0 ≤ v) (hn : 1 ≤ n ∧ n ≤ 8) : Calls Try.prog 28 #[.int .i64 n, .int .u64 v] w fun e w' => ∃ v0, e = .returned v0 ∧ Kd.R (Kd.int .u8) 5 w' w.heap.size (fun _ => True) v0 (numL n v.toNat) ∧ Below w.heap.size w w' := by
  refine word_Num.calls 10 n v (numL n v.toNat) w ?_
  have := num_f 10 (n : Int) v.toNat (Nat.le_refl _)
  rw [if_neg (by omega), Int.toNat_natCast] at this
  rw [← this]
  congr 1
  omega
theorem rnum_c (n : Nat) (v : Int) (h0 : 0 ≤ v) (hn : 1 ≤ n ∧ n ≤ 8) : Calls Try.prog 30 #[.int .i64 n, .int .u64 v] w fun e w' => ∃ v0, e = .returned v0 ∧ Kd.R (Kd.int .u8) 5 w' w.heap.size (fun _ => True) v0 (numL n v.toNat) ∧ Below w.heap.size w w' := by
  refine atticref01_Num.calls 10 n v (numL n v.toNat) w ?_
  have := rnum_f 10 (n : Int) v.toNat (Nat.le_refl _)
  rw [if_neg (by omega), Int.toNat_natCast] at this
  rw [← this]
  congr 1
  omega
theorem rsum_c (hC : Kd.C (Kd.int .u8) w A l.length l) (hc : l.length ≤ c) (hb : Bytes l) (hl : l.length ≤ 1000) : Calls Try.prog 31 #[.slice A l.length c] w fun e w' => e = .returned (.int .u32 (crcSum l : Int)) ∧ Below w.heap.size w w' := by
  refine (atticref01_Sum.calls 20000 A c l _ w hC hc (rsum_f l hb (by omega) 20000 (by omega))).mono ?_
  rintro e w' ⟨rfl, hb⟩
  exact ⟨rfl, drawn_below hb⟩
theorem equal_c (hC : Kd.C (Kd.int .u8) w A l.length l) (hc : l.length ≤ c) (hD : Kd.C (Kd.int .u8) w B m.length m) (hd : m.length ≤ d) {r : Bool} (hr : bytes_Equal.f l m = some r) :
    Calls Try.prog 21 #[.slice A l.length c, .slice B m.length d] w fun e w' => e = .returned (.bool r) ∧ Below w.heap.size w w' := by
  refine (bytes_Equal.calls A c l B d m r w hC hc hD hd hr).mono ?_
  rintro e w' ⟨rfl, hb⟩
  exact ⟨rfl, drawn_below hb⟩
end
theorem sup_nn {a0 a1 a2 a3 a4 a5 : Int} (h : super_Check.f a0 a1 a2 a3 a4 a5 = some 0) : (0 ≤ a0 ∧ a0 < 18446744073709551616) ∧ (0 ≤ a1 ∧ a1 < 18446744073709551616) ∧ (0 ≤ a2 ∧ a2 < 18446744073709551616) ∧ (0 ≤ a3 ∧ a3 < 18446744073709551616) ∧ (0 ≤ a4 ∧ a4 < 18446744073709551616) ∧ (0 ≤ a5 ∧ a5 < 18446744073709551616) := by
  obtain ⟨hg, h1, h2, h3, h4⟩ := chk_ok h
  obtain ⟨g1, g2, g3, g4, g5, g6, g7, p, hp, g8⟩ := check_ok hg
  rw [plan_eq] at hp
  unfold atticref04_plan.f at hp
  have w1 : wrap64 (a4 + 31) = a4 + 31 := by unfold wrap64; omega
  have w2 : wrap64 (a4 + 63) = a4 + 63 := by unfold wrap64; omega
  rw [w1, w2, Int.tdiv_eq_ediv_of_nonneg (by omega), Int.tdiv_eq_ediv_of_nonneg (by omega)] at hp
  have hp := Option.some.inj hp
  subst hp
  simp only [] at g8
  obtain ⟨t1, ht1⟩ : ∃ t, t = (a4 + 31) / 32 := ⟨_, rfl⟩
  obtain ⟨t2, ht2⟩ : ∃ t, t = (a4 + 63) / 64 := ⟨_, rfl⟩
  rw [← ht1, ← ht2] at g8
  have b1 : 1 ≤ t1 ∧ t1 ≤ 10 := by omega
  have b2 : 1 ≤ t2 ∧ t2 ≤ 10 := by omega
  rw [w64id (x := 3 + a2) (by omega) (by omega), w64id (x := t1) (by omega) (by omega), w64id (x := t2) (by omega) (by omega), w64id (x := 3 + a2 + t1) (by omega) (by omega), w64id (x := 3 + a2 + t1 + t2) (by omega) (by omega), w64id (x := 3 + a2 + t1 + t2 + a3) (by omega) (by omega), w64id (x := 4 * a4) (by omega) (by omega), w64id (x := 3 + a2 + t1 + t2 + a3 + 4 * a4) (by omega) (by omega)] at g8
  have hA : 0 ≤ a1 ∧ a1 < 18446744073709551616 := by omega
  exact ⟨by omega, hA, by omega, by omega, by omega, by omega⟩
/-- append(s, x) where s has no room: a new row. -/
theorem app_new {P : Program} {ops : Array Oper} {rest : List Oper} {o : Oper} {a : Act} {Q : Exit → Act → World → Prop} {W : World} (hgd : o.guard = none) (s x : Operand) (t e : TypeId)
    (ho : o.op = .call { callee := .builtin .append, args := #[s, x], argTypes := #[t, t] }) (ht : P.underlying t = some (.slice e)) (hinfo : (P.info? e).map (fun i => (i.zero, i.size, i.bytes)) = some (some (.int .u8 0), 1, 1))
    (A B : Option Addr) (n m cap c : Nat) (xs ys : List Int) (hs : a.eval s = .slice A n cap) (hx : a.eval x = .slice B m c) (hC : Kd.C (Kd.int .u8) W A n xs) (hD : Kd.C (Kd.int .u8) W B m ys) (hn : 0 < n) (hp : 0 < m) (hf : cap < n + m) (hl : n + m ≤ 140737488355328)
    (h : ∀ v1 w1, Kd.R (Kd.int .u8) e w1 W.heap.size (fun _ => True) v1 (xs ++ ys) → Below W.heap.size W w1 → wpList P ops Q rest (a.put o.dst v1) w1) : wpList P ops Q (o :: rest) a W := by
  obtain ⟨i0, hi, hzz⟩ := Option.map_eq_some_iff.1 hinfo
  simp only [Prod.mk.injEq] at hzz
  obtain ⟨hz0, hz1, hz2⟩ := hzz
  have hxn : xs.length = n := hC.1
  have hyn : ys.length = m := hD.1
  obtain ⟨ad, rfl, hcA⟩ := C_cells (enc := Value.int .u8) (h1 := fun _ => rfl) hC n (Nat.le_refl _) hn
  obtain ⟨bd, rfl, hcB⟩ := C_cells (enc := Value.int .u8) (h1 := fun _ => rfl) hD m (Nat.le_refl _) hp
  rw [List.take_of_length_le (by omega)] at hcA hcB
  refine wpList_append_grows W hgd s x t ho e i0 (.int .u8 0) 1 1 ht hi hz0 hz1 hz2 rfl (by decide) (some ad) n cap (encs (Value.int .u8) xs) hs (fun h => by cases h) (by simp [encs, hxn]) (fun b hb => by cases hb; exact hcA) bd m c (encs (Value.int .u8) ys) hx (by simp [encs, hyn]) hcB (encs_one ys (fun _ => rfl)) hf (by simp only [maxLen]; omega) (by omega) ?_
  intro v1 w1 hown hg
  refine h v1 w1 (Kd.R_of_own (enc := Value.int .u8) (h1 := fun _ => rfl) ?_ (fun _ _ => trivial)) ((Below.refl W.heap.size W).grown hg (Nat.le_refl _) (fun _ h => by cases h))
  have e1 : encs (Value.int .u8) (xs ++ ys) = encs (Value.int .u8) xs ++ encs (Value.int .u8) ys := by simp [encs]
  rw [e1, List.length_append, hxn, hyn]
  exact hown
theorem ap_le {x : List Int} {n : Nat} {y : List Int} {m : Nat} (h : x.length = n) (h2 : y.length = m) (hn : n ≤ 1000 := by decide) (hm : m ≤ 1000 := by decide) : (x.length + y.length) * 1 ≤ 140737488355328 := by omega
theorem lt_t {n a j t : Nat} (h : n = a + j) (h2 : j < t) : decide ((n : Int) < ((a + t : Nat) : Int)) = true := decide_eq_true (by omega)
theorem lt_t2 {n a j t : Nat} (h : n = a + j) (h2 : j < t) : decide (n < a + t) = true := decide_eq_true (by omega)
theorem rep_snoc {y x : List Int} {j : Nat} (h : y = x ++ List.replicate j 0) : y ++ [0] = x ++ List.replicate (j + 1) 0 := by rw [h, List.append_assoc, List.replicate_succ']
theorem lt_le {n t : Nat} (h : decide (n < t) = true) (ht : t ≤ 1000) : (n + 1) * 1 ≤ 140737488355328 := by have := of_decide_eq_true h; omega
theorem mea {j q n a t N : Nat} (h : j + q = t) (hd : decide (n < N) = true) (hn : n = a + j) (hN : N = a + t := by decide) : q - 1 < q := by have := of_decide_eq_true hd; omega
theorem step_j {j q n a t N : Nat} (h : j + q = t) (hd : decide (n < N) = true) (hn : n = a + j) (hN : N = a + t := by decide) : Aside0 (j + 1 + (q - 1) = t) := ⟨by have := of_decide_eq_true hd; omega⟩
theorem mea4 {j q n : Nat} (h : j + q = n) (hd : decide (j < n) = true) : q - 1 < q := by have := of_decide_eq_true hd; omega
theorem step4 {j q n : Nat} (h : j + q = n) (hd : decide (j < n) = true) : Aside0 (j + 1 + (q - 1) = n) := ⟨by have := of_decide_eq_true hd; omega⟩
theorem ap_le4 {x y : List Int} {j m : Nat} (h : x.length = 16 + 4 * j) (hd : decide (j < 4) = true) (h2 : y.length = m) (hm : m ≤ 1000 := by decide) : (x.length + y.length) * 1 ≤ 140737488355328 := by have := of_decide_eq_true hd; omega
theorem zr_le {x : List Int} {n m : Nat} (h : x.length = n) (hn : n ≤ 1000 := by decide) (hm : m ≤ 1000 := by decide) : (x.length + m) * 1 ≤ 140737488355328 := by omega
theorem magic_bytes : Bytes magic := by unfold magic Bytes; decide
theorem supHd_length (a0 a1 a2 a3 a4 a5 : Int) : (supHd a0 a1 a2 a3 a4 a5).length = 40 := by simp [supHd, numL_length, magic]
theorem rep_bytes (n : Nat) : Bytes (List.replicate n 0) := fun x hx => by
  rw [List.mem_replicate] at hx
  omega
theorem supHd_bytes (a0 a1 a2 a3 a4 a5 : Int) : Bytes (supHd a0 a1 a2 a3 a4 a5) := by
  unfold supHd
  repeat (first | exact magic_bytes | exact numL_bytes _ _ | refine bytes_append ?_ ?_)
theorem supS_length (a0 a1 a2 a3 a4 a5 : Int) : (supS a0 a1 a2 a3 a4 a5).length = 60 := by simp [supS, supHd_length]
theorem supS_bytes (a0 a1 a2 a3 a4 a5 : Int) : Bytes (supS a0 a1 a2 a3 a4 a5) := bytes_append (supHd_bytes _ _ _ _ _ _) (rep_bytes _)
theorem supB_length (a0 a1 a2 a3 a4 a5 : Int) : (supB a0 a1 a2 a3 a4 a5).length = 256 := by
  unfold supB
  rw [List.length_append, seal_length, supS_length, List.length_replicate]
theorem supB_bytes (a0 a1 a2 a3 a4 a5 : Int) : Bytes (supB a0 a1 a2 a3 a4 a5) := bytes_append (seal_bytes (supS_bytes _ _ _ _ _ _)) (rep_bytes _)
end Go.Proofs.Ytojolpamgijcbaa.Pure
