/- A disk's medium as one row; a fresh row of what is pending: walked. -/
import Derived.Test.YthnadkdfgckijaaDkL
import Derived.Test.YthnadkdfgckijaaPAllx4
import Derived.Test.YthnadkdfgckijaaRng
namespace Go.Proofs.Ythnadkdfgckijaa.Pure
open Go.RowKit Go.Proofs.Ythnadkdfgckijaa Go.Proofs.Ythnadkdfgckijaa.PAll Go.Proofs.Ythnadkdfgckijaa.Mem Go.Proofs.YthnadkdfgckijaaW.PrintWords Go.Proofs.YthnadkdfgckijaaW.PrintLast Go.Proofs.YthnadkdfgckijaaW.PrintMore
set_option linter.unusedVariables false
set_option linter.unusedSimpArgs false

theorem RowsAt.C {w : World} {A : Option Addr} {c : Nat} {F : Nat → Prop} {B : List (List Int)} (h : RowsAt w A c F B) (hn : B.length ≤ 1000000) : Kd.C (Kd.slice 5 (Kd.int .u8)) w A B.length B := by
  obtain ⟨ok, gB, gs, cs, cur, h1, h2, h3, h4, h5, h6⟩ := h
  subst h1
  refine ⟨rfl, by omega, fun _ => ⟨_, rfl, fun j p hj => ?_⟩⟩
  obtain ⟨hj', rfl⟩ := List.getElem?_eq_some_iff.1 hj
  obtain ⟨q1, q2, q3, q4, bc, q5, q6⟩ := h5 j hj'
  have hp : (B[j]).length = 256 := (ok _ (List.getElem_mem _)).1
  rw [List.getD_eq_getElem?_getD, hj, Option.getD_some] at q6
  refine ⟨[.slice (some ⟨gs j, 0, none⟩) 256 (cs j)], rfl, ⟨_, cs j, by rw [hp], by rw [hp]; exact q2, blk_C (enc := Value.int .u8) (h1 := fun _ => rfl) q5 (by rw [List.drop_zero, hp]; exact q6) (by omega)⟩, fun i u hu => ?_⟩
  have hi : i = 0 := by
    rcases i with _ | i
    · rfl
    · simp at hu
  subst hi
  simp only [List.getElem?_cons_zero, Option.some.injEq] at hu
  subst hu
  have e : (⟨gB, 0, none⟩ : Addr).add (j * (Kd.slice 5 (Kd.int .u8)).sz + 0) = ⟨gB, j, none⟩ := by
    show (⟨gB, 0, none⟩ : Addr).add (j * 1 + 0) = _
    rw [add_at, Nat.mul_one, Nat.add_zero, Nat.zero_add]
  rw [e]
  rw [blk_cell h4]
  simpa using q1
theorem flat_len {B : List (List Int)} (h : BlkOk B) : B.flatten.length = 256 * B.length := by
  induction B with
  | nil => rfl
  | cons a B ih =>
    rw [List.flatten_cons, List.length_append, ih (fun b hb => h b (List.mem_cons_of_mem _ hb)), (h a (List.mem_cons_self ..)).1, List.length_cons]
    omega
theorem flat_bytes {B : List (List Int)} (h : BlkOk B) : Bytes B.flatten := fun x hx => by
  obtain ⟨b, hb, hxb⟩ := List.mem_flatten.1 hx
  exact (h b hb).2 x hxb
theorem Dk.ok {w : World} {g : Nat} {s : DS} {V : Nat → Prop} (h : Dk w g s V) : BlkOk s.B ∧ PenOk s.B.length s.P ∧ 0 < s.B.length := by
  obtain ⟨U, ⟨lt, ug, pen, pos, A, Ak, c, ck, vP, FB, FW, FK, h1, h2, _⟩, _⟩ := h
  exact ⟨h2.ok, pen, pos⟩
set_option maxRecDepth 100000 in
set_option maxHeartbeats 4000000 in
theorem n_image {w : World} {g : Nat} {s : DS} {V : Nat → Prop} (h : Dk w g s V) (hn : s.B.length ≤ 1000000) {m : Nat} (hm : 256 * s.B.length = m) : Calls Try.prog 21 #[.pointer (some ⟨g, 0, none⟩)] w fun e w' => ∃ Y d, e = .returned (.slice Y m d) ∧ Own w' w.heap.size Y d s.B.flatten ∧ Below w.heap.size w w' := by
  obtain ⟨U, ⟨lt, ug, pen, pos, A, Ak, c, ck, vP, FB, FW, FK, h1, h2, h3, h4, h5, h6, h7, h8⟩, h0⟩ := h
  have HC := Aside0.mk (h2.C hn)
  have HL := Aside0.mk (flat_len h2.ok)
  have HM := Aside0.mk hm
  have HN := Aside0.mk hn
  have HCC := Aside0.mk (show s.B.length ≤ c from by obtain ⟨_, _, _, _, _, _, q, _⟩ := h2; exact q)
  obtain ⟨z0, z1, z2, z3, z4, z5⟩ := dk_cells h1
  clear h1 h2 h3 h4 h5 h6 h7 h8 h0 lt ug pen pos z1 z2 z3 z4 z5 hm hn
  go_enter Try.func21, Try.ntmps21
  go_wp2_with fail
  refine (slices_Concat_byte_byte.calls A c s.B s.B.flatten w HC.out HCC.out (by unfold slices_Concat_byte_byte.f; rw [if_pos (by have := HL.out; have := HN.out; omega)])).mono ?_
  rintro e w1 ⟨v, rfl, hR, hb⟩
  obtain ⟨Y, d, rfl, hO⟩ := own_of hR
  have OO := Aside0.mk hO
  have BB := Aside0.mk hb
  clear hR hO hb
  rw [HL.out, HM.out]
  go_wp2_with fail
  go_ret
  exact ⟨_, _, rfl, OO.out, BB.out⟩

set_option maxRecDepth 100000 in
set_option maxHeartbeats 16000000 in
/-- A row of what is pending, copied; its inner rows are shared. -/
theorem clone_w {w : World} {v : Value} {FW : Nat → Prop} {P : List (Int × List Int)} (h : Kd.R kW 101 w 0 FW v P) (hF : ∀ k, FW k → k < w.heap.size) (hP : P.length ≤ 1000000) :
    Calls Try.prog 65 #[v] w fun e w' => ∃ v', e = .returned v' ∧ Kd.R kW 101 w' 0 (fun k => FW k ∨ w.heap.size ≤ k) v' P ∧ Below w.heap.size w w' := by
  obtain ⟨hok, inner, hown, hr⟩ := h
  obtain ⟨A, c, rfl, hc, hrow⟩ := OwnRow.reads ⟨inner, hown, hr⟩
  have HROW := Aside0.mk hrow
  have HF := Aside0.mk hF
  have HPP := Aside0.mk hP
  have HB := Aside0.mk (Below.refl w.heap.size w)
  clear hok hown hr hc hrow hF hP
  have ke := fun (w : World) (n c : Nat) => Lib.run_eql_slice_nil (P := Try.prog) w 53 101 A n c 0 0 Try.underlying53
  cases A with
  | none =>
    have h0 : P.length = 0 := by
      rcases Nat.eq_zero_or_pos P.length with h | h
      · exact h
      · obtain ⟨ad, e, _⟩ := HROW.out.2.2 h
        cases e
    have h1 : P = [] := List.eq_nil_of_length_eq_zero h0
    subst h1
    go_enter Try.func65, Try.ntmps65
    go_wp2
    go_ret
    exact ⟨_, rfl, Kd.R_nil _ _ _ _ _, Below.refl _ _⟩
  | some ad =>
    go_enter Try.func65, Try.ntmps65
    go_wp2_with ((with_reducible refine gate_builtin (b := .append) (xs := #[.tmp 5, .tmp 6]) rfl ?_); at_builtin; refine Kd.R_append_rows kW (Rr := kW.M w 0 fun k => FW k ∧ some k ≠ (Value.slice (some ad) P.length c).ownBlock) (w0 := w) (W := w.alloc (.cells #[] 101)) 0 (by rfl) (.tmp 5) (.tmp 6) 53 101 (.agg #[.int .i64 0, .slice none 0 0]) 32 rfl Try.underlying53 info101 rfl (by decide) (by decide) (.slice (some ⟨w.heap.size, 0, none⟩) 0 0) ([] : List (Int × List Int)) P (some ad) P.length c (fun k => FW k ∨ w.heap.size ≤ k) FW rfl rfl ?aO ?aR ?aM ?aK ?aQ ?aB ?aS ?aL ?_)
    case aO => exact ⟨fun k hk => .inr (by cases hk; exact Nat.le_refl _), [], World.ownsRow_made w #[] 0 (Nat.zero_le _) (by unfold maxLen; omega) rfl, Reps.none _ _⟩
    case aR => exact HROW.out.imp_ ((Below.refl _ _).alloc (Nat.le_refl _) _) (fun _ _ h => h)
    case aM => exact fun x cs h => kW.M_mono (fun k hk => hk.1) (kW.M_move (fun k hk => Below.heap_alloc _ _ _ (HF.out k hk.1)) h)
    case aK => exact fun k hk => ⟨.inl hk, fun e => by cases e; exact Nat.lt_irrefl _ (HF.out _ hk)⟩
    case aQ => exact fun k hk => .inr (by simp at hk; omega)
    case aB => exact (HB.out.alloc (Nat.le_refl _) _).mono (Nat.zero_le _)
    case aS => exact Nat.zero_le _
    case aL => have := HPP.out; simp; omega
    intro v1 w1 ho hb hg hat
    have HO := Aside0.mk ho
    have HG := Aside0.mk (show Below w.heap.size w w1 from (HB.out.alloc (Nat.le_refl _) _).grown hg (by simp) (fun j e => by cases e; exact Nat.le_refl _))
    clear ho hb hg hat
    go_wp2
    go_ret
    exact ⟨_, rfl, HO.out, HG.out⟩
end Go.Proofs.Ythnadkdfgckijaa.Pure
