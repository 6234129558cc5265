/- A disk's blocks in memory; a write that reaches the medium: walked. -/
import Derived.Test.YthnadkdfgckijaaDkA
import Derived.Test.YthnadkdfgckijaaPAllx2
import Derived.Deep.RegionLaw
import Derived.Deep.RegionHeld3
import Derived.Deep.QuietTactic
import Derived.BigQuiet
namespace Go.Proofs.Ythnadkdfgckijaa.Pure
open Go.RowKit Go.Proofs.Ythnadkdfgckijaa Go.Proofs.Ythnadkdfgckijaa.PAll Go.Proofs.Ythnadkdfgckijaa.Mem Go.Proofs.YthnadkdfgckijaaW.PrintWords Go.Proofs.YthnadkdfgckijaaW.PrintLast Go.Proofs.YthnadkdfgckijaaW.PrintMore
set_option linter.unusedVariables false
set_option linter.unusedSimpArgs false

/-- Where a part of a row begins. -/
def cutP (A : Option Addr) (c lo : Nat) : Option Addr := if c = lo then A else A.map (·.add (lo * 1))
theorem cutP_zero (A : Option Addr) (c : Nat) : cutP A c 0 = A := by
  unfold cutP
  split
  · rfl
  · cases A with
    | none => rfl
    | some a => rw [Nat.zero_mul]; simp [Addr.add]
theorem elem26 : Try.prog.elem 26 = 5 := by simp [Program.elem, Try.underlying26]
theorem info5 : (Try.prog.info? 5).map (fun i => (i.zero, i.size, i.bytes)) = some (some (.int .u8 0), 1, 1) := by kernel_rfl
theorem info5s : (Try.prog.info? 5).map (·.size) = some 1 := by kernel_rfl
theorem cutLH (A : Option Addr) (n c lo hi : Nat) (h1 : lo ≤ hi) (h2 : hi ≤ c) (W : World) : (Instr.slice 26 (.slice A n c) (some (.int .i64 (lo : Int))) (some (.int .i64 (hi : Int))) none).run Try.prog W = .ok (.slice (cutP A c lo) (hi - lo) (c - lo)) W := by
  obtain ⟨i, hi0, hz⟩ := Option.map_eq_some_iff.1 info5
  simp only [Prod.mk.injEq] at hz
  have hu : Try.prog.underlying 26 = some (.slice (Try.prog.elem 26)) := by rw [elem26]; exact Try.underlying26
  rw [run_slice_lh W 26 A n c hu .i64 .i64 (lo : Int) (hi : Int) (by omega) (by omega) (by omega), elem26]
  simp [sizeOf, typeInfo, hi0, hz, sliced, cutP, Result.andThen]
theorem cutL (A : Option Addr) (n c lo : Nat) (h1 : lo ≤ n) (W : World) : (Instr.slice 26 (.slice A n c) (some (.int .i64 (lo : Int))) none none).run Try.prog W = .ok (.slice (cutP A c lo) (n - lo) (c - lo)) W := by
  obtain ⟨i, hi0, hz⟩ := Option.map_eq_some_iff.1 info5
  simp only [Prod.mk.injEq] at hz
  have hu : Try.prog.underlying 26 = some (.slice (Try.prog.elem 26)) := by rw [elem26]; exact Try.underlying26
  rw [run_slice_l W 26 A n c hu .i64 (lo : Int) (by omega) (by omega), elem26]
  simp [sizeOf, typeInfo, hi0, hz, sliced, cutP, Result.andThen]
theorem F_cutP {w : World} {U : Nat → Prop} {A : Option Addr} {c lo : Nat} {l : List Int} (h : Kd.F (Kd.int .u8) w U A l.length l) (h1 : lo ≤ l.length) (hc : l.length ≤ c) : Kd.F (Kd.int .u8) w U (cutP A c lo) (l.drop lo).length (l.drop lo) := Kd.F_cut h h1 hc

/-- A disk's blocks: a row of rows, each in a block of its own. -/
structure RowsAt (w : World) (A : Option Addr) (c : Nat) (F : Nat → Prop) (B : List (List Int)) : Prop where
  ok : BlkOk B
  out : ∃ (gB : Nat) (gs cs : Nat → Nat) (cur : List Value), A = some ⟨gB, 0, none⟩ ∧ B.length ≤ c ∧ F gB ∧ w.heap[gB]? = some (.cells cur.toArray 26 (0, 0)) ∧
    (∀ i, i < B.length → cur[i]? = some (.slice (some ⟨gs i, 0, none⟩) 256 (cs i)) ∧ 256 ≤ cs i ∧ F (gs i) ∧ gs i ≠ gB ∧ ∃ bc : List Value, w.heap[gs i]? = some (.cells bc.toArray 5 (0, 0)) ∧ bc.take 256 = encs (Value.int .u8) (B.getD i [])) ∧
    (∀ i j, i < B.length → j < B.length → gs i = gs j → i = j)
theorem RowsAt.fr {w w' : World} {A : Option Addr} {c : Nat} {F F' : Nat → Prop} {B : List (List Int)} (h : RowsAt w A c F B) (hf : Fr F' w w') (hn : ∀ k, F k → ¬ F' k) : RowsAt w' A c F B := by
  obtain ⟨ok, gB, gs, cs, cur, h1, h2, h3, h4, h5, h6⟩ := h
  refine ⟨ok, gB, gs, cs, cur, h1, h2, h3, fr_blk hf h4 (hn _ h3), fun i hi => ?_, h6⟩
  obtain ⟨q1, q2, q3, q4, bc, q5, q6⟩ := h5 i hi
  exact ⟨q1, q2, q3, q4, bc, fr_blk hf q5 (hn _ q3), q6⟩
theorem RowsAt.below {w w' : World} {A : Option Addr} {c : Nat} {F : Nat → Prop} {B : List (List Int)} (h : RowsAt w A c F B) (hb : Below w.heap.size w w') : RowsAt w' A c F B := h.fr (F' := fun _ => False) (Fr.of_below hb) (fun _ _ h => h)
theorem RowsAt.set {w w' : World} {A : Option Addr} {c : Nat} {F : Nat → Prop} {B : List (List Int)} (h : RowsAt w A c F B) {gB : Nat} {gs cs : Nat → Nat} {cur : List Value} (h1 : A = some ⟨gB, 0, none⟩) (h2 : B.length ≤ c) (h3 : F gB) (h4 : w.heap[gB]? = some (.cells cur.toArray 26 (0, 0)))
    (h5 : ∀ i, i < B.length → cur[i]? = some (.slice (some ⟨gs i, 0, none⟩) 256 (cs i)) ∧ 256 ≤ cs i ∧ F (gs i) ∧ gs i ≠ gB ∧ ∃ bc : List Value, w.heap[gs i]? = some (.cells bc.toArray 5 (0, 0)) ∧ bc.take 256 = encs (Value.int .u8) (B.getD i []))
    (h6 : ∀ i j, i < B.length → j < B.length → gs i = gs j → i = j) {I : Nat} (hI : I < B.length) (ho : Only (gs I) w w') {bc : List Value} (hg : w'.heap[gs I]? = some (.cells bc.toArray 5 (0, 0))) {r : List Int} (ht : bc.take 256 = encs (Value.int .u8) r) (hr : r.length = 256 ∧ Bytes r) : RowsAt w' A c F (B.set I r) := by
  refine ⟨fun b hb => ?_, gB, gs, cs, cur, h1, by rw [List.length_set]; exact h2, h3, (ho.block gB (fun e => (h5 I hI).2.2.2.1 e.symm)).trans h4, fun i hi => ?_, fun i j hi hj => ?_⟩
  · rcases List.mem_or_eq_of_mem_set hb with q | q
    · exact h.ok b q
    · rw [q]; exact hr
  · rw [List.length_set] at hi
    obtain ⟨q1, q2, q3, q4, bc', q5, q6⟩ := h5 i hi
    refine ⟨q1, q2, q3, q4, ?_⟩
    by_cases e : i = I
    · subst e
      refine ⟨bc, hg, ?_⟩
      rw [List.getD_eq_getElem?_getD, List.getElem?_set, if_pos rfl, if_pos hi]
      exact ht
    · refine ⟨bc', (ho.block (gs i) (fun q => e (h6 i I hi hI q))).trans q5, ?_⟩
      rw [List.getD_eq_getElem?_getD, List.getElem?_set, if_neg (fun q => e q.symm), ← List.getD_eq_getElem?_getD]
      exact q6
  · rw [List.length_set] at hi hj
    exact h6 i j hi hj
theorem Fr.only {F : Nat → Prop} {g : Nat} {w w' : World} (h : Only g w w') (hg : F g) : Fr F w w' := ⟨h.os, h.tape, h.output, Nat.le_of_eq h.size.symm, fun k _ hn => h.block k (fun e => hn (e ▸ hg))⟩
/-- A disk's cells. -/
abbrev dkCs (A : Option Addr) (n c : Nat) (v1 v2 v3 v4 v5 : Value) : Array Value := #[.slice A n c, v1, v2, v3, v4, v5]
theorem dk_cells {w : World} {g n c : Nat} {A : Option Addr} {v1 v2 v3 v4 v5 : Value} {t : TypeId} (h : w.heap[g]? = some (.cells (dkCs A n c v1 v2 v3 v4 v5) t (0, 0))) :
    w.cell? ⟨g, 0, none⟩ = some (.slice A n c) ∧ w.cell? ⟨g, 1, none⟩ = some v1 ∧ w.cell? ⟨g, 2, none⟩ = some v2 ∧ w.cell? ⟨g, 3, none⟩ = some v3 ∧ w.cell? ⟨g, 4, none⟩ = some v4 ∧ w.cell? ⟨g, 5, none⟩ = some v5 := by
  refine ⟨?_, ?_, ?_, ?_, ?_, ?_⟩ <;> (unfold World.cell?; simp only [h]; rfl)
theorem two_cells {w : World} {g : Nat} {a b : Value} {t : TypeId} (h : w.heap[g]? = some (.cells #[a, b] t (0, 0))) : w.cell? ⟨g, 0, none⟩ = some a ∧ w.cell? ⟨g, 1, none⟩ = some b := by
  refine ⟨?_, ?_⟩ <;> (unfold World.cell?; simp only [h]; rfl)
theorem st_n {k q n : Nat} (h : k + q = n) (hl : k < n) : k + 1 + (q - 1) = n ∧ q - 1 < q := by omega
theorem en_k {k q n : Nat} (h : k + q = n) (hl : ¬ k < n) : k = n := by omega
theorem di_t {k n : Nat} (h : k < n) : decide ((k : Int) < (n : Int)) = true ∧ decide (k < n) = true := ⟨decide_eq_true (by omega), decide_eq_true h⟩
theorem di_f {k n : Nat} (h : k = n) : decide ((k : Int) < (n : Int)) = false ∧ decide (k < n) = false := ⟨decide_eq_false (by omega), decide_eq_false (by omega)⟩
theorem stepv {k n : Nat} (h : k < n) (hn : n ≤ 9223372036854775807) : Value.int .i64 (wrap64 ((k : Int) + 1)) = .int .i64 ((k + 1 : Nat) : Int) := by
  rw [show wrap64 ((k : Int) + 1) = ((k + 1 : Nat) : Int) by unfold wrap64; omega]
theorem w64id {x : Int} (h0 : -9223372036854775808 ≤ x) (h : x ≤ 9223372036854775807) : wrap64 x = x := by unfold wrap64; omega
theorem mul64 {k : Nat} (h : k < 4) : wrap64 ((k : Int) * 64) = ((64 * k : Nat) : Int) ∧ wrap64 (((64 * k : Nat) : Int) + 64) = ((64 * k + 64 : Nat) : Int) := by
  constructor
  · rw [w64id (by omega) (by omega)]; omega
  · rw [w64id (by omega) (by omega)]; omega
/-- What the copy of a sector needs and leaves. -/
theorem sec_copy {w : World} {gI cI f k : Nat} {bc : List Value} {old b : List Int} {Ab : Option Addr} {cb : Nat} {U : Nat → Prop} (hf : f = 64 * k) (hk : k < 4) (hc : 256 ≤ cI) (ht : bc.take 256 = encs (Value.int .u8) old) (ho : old.length = 256) (hb : b.length = 256) (hF : Kd.F (Kd.int .u8) w U Ab 256 b) (hcb : 256 ≤ cb) :
    ∃ cs : List Value, cs.length = 64 ∧ (0 < cs.length → cutP (some ⟨gI, 0, none⟩) cI f = some ⟨gI, f, none⟩ ∧ ∃ ad, cutP Ab cb f = some ad ∧ ∀ j v, cs[j]? = some v → w.cell? (ad.add j) = some v) ∧ f + cs.length ≤ bc.length ∧ (∀ v ∈ cs, v.oneCell' = true) ∧ (splice bc f cs).take 256 = encs (Value.int .u8) (over old f (sec b k)) := by
  subst hf
  have hs := sec_len hb hk
  have hbl : 256 ≤ bc.length := by
    have := congrArg List.length ht
    rw [List.length_take] at this
    simp only [encs, List.length_map] at this
    omega
  have hF2 : Kd.F (Kd.int .u8) w U Ab b.length b := by rw [hb]; exact hF
  have hcut := Kd.F_now (F_cutP hF2 (show 64 * k ≤ b.length by omega) (c := cb) (by omega))
  refine ⟨encs (Value.int .u8) (sec b k), by rw [encs_length, hs], fun _ => ⟨?_, ?_⟩, by rw [encs_length, hs]; omega, encs_one _ (fun _ => rfl), ?_⟩
  · unfold cutP
    rw [if_neg (by omega), Option.map_some, add_at, Nat.mul_one, Nat.zero_add]
  · obtain ⟨ad, ha, hcell⟩ := C_cells (enc := Value.int .u8) (h1 := fun _ => rfl) hcut 64 (by rw [List.length_drop]; omega) (by omega)
    exact ⟨ad, ha, hcell⟩
  · have h := splice_take (enc := Value.int .u8) (cur := bc) (l := old) (x := sec b k) (o := 64 * k) (by rw [ho]; exact ht) (by rw [hs, ho]; omega) (by rw [ho]; exact hbl)
    rw [ho] at h
    exact h
theorem over_bytes {b old : List Int} (ho : old.length = 256) (hb : b.length = 256) (pick : Int) {k : Nat} (hk : k < 4) (h1 : Bytes b) (h2 : Bytes old) : Bytes (over (mixN b pick k old) (64 * k) (sec b k)) := by
  have hm : Bytes (mixN b pick k old) := by
    intro x hx
    obtain ⟨j, hj, e⟩ := List.mem_iff_getElem.1 hx
    rw [mixN_len hb ho pick k (by omega)] at hj
    have h := mixN_get hb ho pick j hj k (by omega)
    rw [List.getElem?_eq_getElem (by rw [mixN_len hb ho pick k (by omega)]; exact hj), e] at h
    split at h
    · rw [List.getElem?_eq_getElem (by omega)] at h
      injection h with h
      rw [h]
      exact h1 _ (List.getElem_mem _)
    · rw [List.getElem?_eq_getElem (by omega)] at h
      injection h with h
      rw [h]
      exact h2 _ (List.getElem_mem _)
  intro x hx
  unfold over at hx
  rcases List.mem_append.1 hx with q | q
  · exact hm x (List.mem_of_mem_take q)
  · rcases List.mem_append.1 q with q | q
    · exact h1 x (List.mem_of_mem_drop (List.mem_of_mem_take q))
    · exact hm x (List.mem_of_mem_drop q)
attribute [local go_sem high] cutLH cutL
section
variable {w : World} {g n c cb : Nat} {A Ab : Option Addr} {v1 v2 v3 v4 v5 : Value} {FB UX : Nat → Prop} {B : List (List Int)} {I : Nat} {b : List Int}
set_option maxRecDepth 100000 in
set_option maxHeartbeats 16000000 in
theorem reach_c (hg : w.heap[g]? = some (.cells (dkCs A B.length c v1 v2 v3 v4 v5) 55 (0, 0))) (hR : RowsAt w A c FB B) (hgF : ¬ FB g) (hI : I < B.length) (hb : b.length = 256) (hby : Bytes b) (hF : Kd.F (Kd.int .u8) w UX Ab 256 b) (hcb : 256 ≤ cb) (hXU : ∀ k, UX k → ¬ FB k) (hFB : ∀ k, FB k → k < w.heap.size) (pick : Int) :
    Calls Try.prog 58 #[.pointer (some ⟨g, 0, none⟩), .agg #[.int .i64 (I : Int), .slice Ab 256 cb], .int .u8 pick] w fun e w' => e = .returned (.tuple #[]) ∧ RowsAt w' A c FB (reachB B ((I : Int), b) pick) ∧ Fr FB w w' := by
  have BN := Aside0.mk (And.intro hI (And.intro hb (And.intro hby hcb)))
  have OO := Aside0.mk (getD_ok hR.ok hI)
  have GN := Aside0.mk hgF
  have XU := Aside0.mk hXU
  have FS := Aside0.mk hFB
  obtain ⟨old, hold⟩ : ∃ o, o = B.getD I [] := ⟨_, rfl⟩
  have HO := Aside0.mk hold
  rw [← hold] at OO
  have hbn := (Below.refl w.heap.size w).alloc (Nat.le_refl _) (.cells #[.int .i64 (I : Int), .slice Ab 256 cb] 101)
  have G1 := Aside0.mk ((hbn.block _ (blk_lt hg)).trans hg)
  have R1 := Aside0.mk (show RowsAt (w.alloc (.cells #[.int .i64 (I : Int), .slice Ab 256 cb] 101)) A c FB (B.set I (mixN b pick 0 old)) from by
    have h := hR.below hbn
    have e : B.set I (mixN b pick 0 old) = B := by
      unfold mixN
      rw [hold, List.getD_eq_getElem?_getD, List.getElem?_eq_getElem hI]
      exact List.set_getElem_self hI
    rw [e]
    exact h)
  have X1 := Aside0.mk (Kd.F_below hF hbn)
  have N1 := Aside0.mk (heap_new w (.cells #[.int .i64 (I : Int), .slice Ab 256 cb] 101))
  have F1 := Aside0.mk (Fr.of_below (F := FB) hbn)
  have NN := Aside0.mk (show ¬ FB w.heap.size from fun h => Nat.lt_irrefl _ (hFB _ h))
  clear hI hb hby hcb hgF hXU hold hbn hg hR hF hFB
  go_enter Try.func58, Try.ntmps58
  go_wp2_with fail
  obtain ⟨w1, hw1⟩ : ∃ x, x = w.alloc (.cells #[.int .i64 (I : Int), .slice Ab 256 cb] 101) := ⟨_, rfl⟩
  rw [← hw1] at G1 R1 X1 N1 F1 ⊢
  clear hw1
  obtain ⟨g4, hg4⟩ : ∃ x, x = w.heap.size := ⟨_, rfl⟩
  rw [← hg4] at N1 NN ⊢
  clear hg4
  go_loopg [8] 4 (fun q v8 w' => ∃ (k : Nat), v8 = .int .i64 (k : Int) ∧ Aside0 (k + q = 4) ∧ Aside0 (RowsAt w' A c FB (B.set I (mixN b pick k old))) ∧ Aside0 (Fr FB w1 w'))
  case atStart => exact ⟨0, rfl, ⟨rfl⟩, R1, ⟨Fr.refl _ _⟩⟩
  case round =>
    clear R1
    obtain ⟨k, rfl, HJ, RR, FF⟩ := hrel
    by_cases hlt : k < 4
    case pos =>
      have hgd : decide ((k : Int) < 4) = true := (di_t hlt).1
      have hgd2 : decide (k < 4) = true := (di_t hlt).2
      have HN := Aside0.mk (st_n HJ.out hlt).1
      have HM := Aside0.mk (st_n HJ.out hlt).2
      have HV := Aside0.mk (stepv hlt (by decide))
      have HK := Aside0.mk hlt
      obtain ⟨bt, hbt⟩ : ∃ x, x = bitB pick k := ⟨_, rfl⟩
      have BT := Aside0.mk hbt
      have hbt2 : (Go.bits .and .u8 (pick / 2 ^ min k 8) 1 == 1) = bt := hbt.symm
      clear hbt HJ
      cases bt
      case false =>
        have R2 := Aside0.mk (show RowsAt wr A c FB (B.set I (mixN b pick (k + 1) old)) from by rw [mixN, if_neg (by rw [← BT.out]; decide)]; exact RR.out)
        clear hlt
        go_wp2_with fail
        go_roundg (gk - 1)
        case measure => exact HM.out
        case rel => exact ⟨k + 1, HV.out, HN, R2, FF⟩
      case true =>
        obtain ⟨ok, gB, gs, cs, cur, rfl, q2, q3, q4, q5, q6⟩ := RR.out
        have hIB := BN.out.1
        obtain ⟨t1, t2, t3, t4, bc, t5, t6⟩ := q5 I (by rw [List.length_set]; exact hIB)
        rw [List.getD_eq_getElem?_getD, List.getElem?_set, if_pos rfl, if_pos hIB, Option.getD_some] at t6
        have OL := Aside0.mk (mixN_len BN.out.2.1 OO.out.1 pick k (Nat.le_of_lt hlt))
        obtain ⟨m64, m64b⟩ := mul64 hlt
        have g0 := fr_blk FF.out G1.out GN.out
        have n0 := fr_blk FF.out N1.out NN.out
        obtain ⟨f, hf⟩ : ∃ f, f = 64 * k := ⟨_, rfl⟩
        obtain ⟨t, ht⟩ : ∃ t, t = f + 64 := ⟨_, rfl⟩
        rw [← hf] at m64 m64b
        rw [← ht] at m64b
        have htf : t - f = 64 := by omega
        have hft : f ≤ t := by omega
        have m64c : (f : Int) + 64 = (t : Int) := by omega
        have m64d : wrap64 (t : Int) = (t : Int) := w64id (by omega) (by omega)
        have m64e : IntKind.i64.wrap (t : Int) = (t : Int) := by rw [i64_w]; exact m64d
        clear m64b
        have htc : t ≤ cs I := by omega
        have hf256 : f ≤ 256 := by omega
        have hf255 : f ≤ 256 := hf256
        have XW := Aside0.mk (F_fr X1.out FF.out XU.out)
        obtain ⟨es, a1, a2, a3, a4, a5⟩ := sec_copy (w := wr.drew) (gI := gs I) hf hlt t2 t6 OL.out BN.out.2.1 (Kd.F_drew XW.out) BN.out.2.2.2
        have A1 := Aside0.mk (show es.length = Nat.min (256 - f) 64 from by rw [a1]; exact (Nat.min_eq_right (by omega)).symm)
        have A2 := Aside0.mk a2
        have A3 := Aside0.mk a3
        have A4 := Aside0.mk a4
        have A5 := Aside0.mk a5
        have T1 := Aside0.mk (show wr.drew.heap[gs I]? = some (.cells bc.toArray 5 (0, 0)) from t5)
        have R2 := Aside0.mk (fun (w7 : World) (ho : Only (gs I) wr.drew w7) (hg7 : w7.heap[gs I]? = some (.cells (splice bc f es).toArray 5 (0, 0))) => (RowsAt.below RR.out (below_drew (Below.refl _ _))).set rfl q2 q3 q4 q5 q6 (I := I) (by rw [List.length_set]; exact hIB) ho hg7 a5 ⟨by rw [hf]; exact (by have := mixN_len BN.out.2.1 OO.out.1 pick (k + 1) hlt; rw [mixN, if_pos (by rw [← BT.out])] at this; exact this), by rw [hf]; exact over_bytes OO.out.1 BN.out.2.1 pick hlt BN.out.2.2.1 OO.out.2⟩)
        have R3 := Aside0.mk (show (B.set I (mixN b pick k old)).set I (over (mixN b pick k old) f (sec b k)) = B.set I (mixN b pick (k + 1) old) from by rw [List.set_set, mixN, if_pos (by rw [← BT.out]), hf])
        have FG := Aside0.mk (show FB (gs I) from t3)
        obtain ⟨z0, z1, z2, z3, z4, z5⟩ := dk_cells g0
        obtain ⟨y0, y1⟩ := two_cells n0
        have x0 : wr.cell? ⟨gB, I, none⟩ = some (.slice (some ⟨gs I, 0, none⟩) 256 (cs I)) := by rw [blk_cell q4]; simpa using t1
        have hIc : I < B.length := hIB
        clear ok q2 q3 q4 q5 q6 t1 t2 t3 t4 t5 t6 g0 n0 hf ht a1 a2 a3 a4 a5 z1 z2 z3 z4 z5 RR hlt hIB
        go_wp2_with fail
        rw [m64]
        clear m64 hf256
        go_region_law (refine step_copy_only rfl (.tmp 29) (.tmp 33) 26 26 rfl 5 Try.underlying26 info5s (cutP (some ⟨gs I, 0, none⟩) (cs I) f) (cutP Ab cb f) 64 (cs I - f) (256 - f) (cb - f) rfl rfl (gs I) f bc 5 T1.out es A1.out A2.out A3.out A4.out ?_; intro w7 hg7 hb7)
        all_goals
          have R7 := Aside0.mk (R2.out w7 hb7.out hg7.out)
          rw [R3.out] at R7
          have F7 := Aside0.mk ((FF.out.then_ (Fr.of_below (below_drew (Below.refl _ _)))).then_ (Fr.only hb7.out FG.out))
          clear hg7 hb7
          go_wp2_with fail
          go_roundg (gk - 1)
          case measure => exact HM.out
          case rel => exact ⟨k + 1, HV.out, HN, R7, F7⟩
    have hke : k = 4 := en_k HJ.out hlt
    subst hke
    have hge : decide (((4 : Nat) : Int) < 4) = false := by decide
    clear hlt
    go_wp2_with fail
    go_end0
    refine ⟨rfl, ?_, F1.out.then_ FF.out⟩
    unfold reachB mix
    rw [Int.toNat_natCast, ← HO.out]
    exact RR.out
end
end Go.Proofs.Ythnadkdfgckijaa.Pure
