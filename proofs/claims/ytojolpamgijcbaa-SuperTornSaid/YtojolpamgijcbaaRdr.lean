/- A reader of bytes: contracts of its parts, walked. -/
import Derived.Test.YtojolpamgijcbaaSupB
import Derived.Test.YtojolpamgijcbaaPAllx9
import Derived.Deep.RegionHeld3
namespace Go.Proofs.Ytojolpamgijcbaa.Pure
open Go.RowKit Go.Proofs.Ytojolpamgijcbaa Go.Proofs.Ytojolpamgijcbaa.PAll Go.Proofs.Ytojolpamgijcbaa.PGt Go.Proofs.Ytojolpamgijcbaa.Mem Go.Proofs.YtojolpamgijcbaaW.PrintWords Go.Proofs.YtojolpamgijcbaaW.PrintLast Go.Proofs.YtojolpamgijcbaaW.PrintMore
set_option linter.unusedVariables false
set_option linter.unusedSimpArgs false

/-- What a call may have changed: of the blocks that were there only those of F. -/
structure Fr (F : Nat → Prop) (w w' : World) : Prop where
  os : w'.os = w.os
  tape : w'.tape = w.tape
  output : w'.output = w.output
  size : w.heap.size ≤ w'.heap.size
  block : ∀ k, k < w.heap.size → ¬ F k → w'.heap[k]? = w.heap[k]?
theorem Fr.of_below {F : Nat → Prop} {w w' : World} (h : Below w.heap.size w w') : Fr F w w' := ⟨h.os, h.tape, h.output, h.size, fun k hk _ => h.block k hk⟩
theorem Fr.refl (F : Nat → Prop) (w : World) : Fr F w w := ⟨rfl, rfl, rfl, Nat.le_refl _, fun _ _ _ => rfl⟩
theorem Fr.trans {F F' : Nat → Prop} {w w1 w2 : World} (h : Fr F w w1) (k : Fr F' w1 w2) (hF : ∀ i, F' i → F i ∨ w.heap.size ≤ i) : Fr F w w2 :=
  ⟨k.os.trans h.os, k.tape.trans h.tape, k.output.trans h.output, Nat.le_trans h.size k.size, fun i hi hn => (k.block i (Nat.lt_of_lt_of_le hi h.size) (fun hf => by rcases hF i hf with h1 | h1; exact hn h1; omega)).trans (h.block i hi hn)⟩
theorem Fr.set {F : Nat → Prop} {w w1 : World} (h : Fr F w w1) {p : Addr} (hp : F p.block) (v : Value) : Fr F w (w1.setCell p v) :=
  h.trans (F' := F) ⟨rfl, rfl, rfl, by simp [World.setCell], fun k _ hn => Below.heap_setCell w1 p v k (fun e => hn (e ▸ hp))⟩ (fun i hi => .inl hi)
theorem Fr.below {F : Nat → Prop} {B : Nat} {w0 w w' : World} (h : Fr F w w') (hb : Below B w0 w) (hF : ∀ i, F i → B ≤ i) (hB : B ≤ w.heap.size) : Below B w0 w' :=
  hb.trans ⟨h.os, h.tape, h.output, h.size, fun k hk => h.block k (Nat.lt_of_lt_of_le hk hB) (fun hf => by have := hF k hf; omega)⟩
/-- A reader's cells. -/
abbrev rdCs (B : Option Addr) (n c : Nat) (at_ e : Int) (made : Bool) : Array Value := #[.slice B n c, .int .i64 at_, .int .i64 e, .bool made]
theorem rd_cells {w : World} {g : Nat} {B : Option Addr} {n c : Nat} {at_ e : Int} {made : Bool} {t : TypeId} (h : w.heap[g]? = some (.cells (rdCs B n c at_ e made) t (0, 0))) :
    w.cell? ⟨g, 0, none⟩ = some (.slice B n c) ∧ w.cell? ⟨g, 1, none⟩ = some (.int .i64 at_) ∧ w.cell? ⟨g, 2, none⟩ = some (.int .i64 e) ∧ w.cell? ⟨g, 3, none⟩ = some (.bool made) := by
  refine ⟨?_, ?_, ?_, ?_⟩ <;> (unfold World.cell?; simp only [h]; rfl)
section
variable {w : World} {g : Nat} {B : Option Addr} {c p n : Nat} {l : List Int} (hg : w.heap[g]? = some (.cells (rdCs B l.length c p 0 true) 75 (0, 0)))
include hg
set_option maxRecDepth 100000 in
theorem none_c : Calls Try.prog 43 #[.pointer (some ⟨g, 0, none⟩)] w fun e w' => e = .returned (.bool false) ∧ Below w.heap.size w w' := by
  have K0 := Aside0.mk (Below.refl w.heap.size w)
  obtain ⟨z0, z1, z2, z3⟩ := rd_cells hg
  go_enter Try.func43, Try.ntmps43
  go_wp2_with fail
  go_ret
  exact ⟨rfl, K0.out⟩
set_option maxRecDepth 100000 in
theorem refuse_c : Calls Try.prog 44 #[.pointer (some ⟨g, 0, none⟩), .bool false, .int .i64 1] w fun e w' => e = .returned (.tuple #[]) ∧ Below w.heap.size w w' := by
  have K0 := Aside0.mk (Below.refl w.heap.size w)
  obtain ⟨z0, z1, z2, z3⟩ := rd_cells hg
  go_enter Try.func44, Try.ntmps44
  go_wp2_with fail
  go_end0
  exact ⟨rfl, K0.out⟩
set_option maxRecDepth 100000 in
theorem can_c (hl : l.length ≤ 1000) (hp : p + n ≤ l.length) : Calls Try.prog 45 #[.pointer (some ⟨g, 0, none⟩), .int .i64 n] w fun e w' => e = .returned (.bool true) ∧ Below w.heap.size w w' := by
  have K0 := Aside0.mk (below_drew (Below.refl w.heap.size w))
  have G1 := Aside0.mk ((K0.out.block _ (blk_lt hg)).trans hg)
  have hw : wrap64 ((l.length : Int) - (p : Int)) = ((l.length - p : Nat) : Int) := by rw [w64id (by omega) (by omega)]; omega
  have hw2 : IntKind.i64.wrap ((l.length : Int) - (p : Int)) = ((l.length - p : Nat) : Int) := by rw [← hw, i64_w]
  have hgd : decide ((n : Int) > ((l.length - p : Nat) : Int)) = false := decide_eq_false (by omega)
  have hgd2 : decide (l.length - p < n) = false := decide_eq_false (by omega)
  obtain ⟨z0, z1, z2, z3⟩ := rd_cells G1.out
  clear hl hp hg
  go_enter Try.func45, Try.ntmps45
  go_wp2_with fail
  go_region_held3 (fun w' => w'.cell? ⟨g, 0, none⟩ = some (.slice B l.length c) ∧ w'.cell? ⟨g, 1, none⟩ = some (.int .i64 (p : Int)) ∧ w'.cell? ⟨g, 2, none⟩ = some (.int .i64 0) ∧ w'.cell? ⟨g, 3, none⟩ = some (.bool true)) (go_keep) (fail)
  go_wp2_with fail
  go_ret
  exact ⟨rfl, K0.out⟩
end
theorem wget_c {w : World} {B : Option Addr} {c p n : Nat} {l : List Int} (hC : Kd.C (Kd.int .u8) w B l.length l) (hc : l.length ≤ c) (hb : Bytes l) (hl : l.length ≤ 1000) (hn : 1 ≤ n ∧ n ≤ 8) (hp : p + n ≤ l.length) : Calls Try.prog 46 #[.slice B l.length c, .int .i64 p, .int .i64 n] w fun e w' => e = .returned (.tuple #[.int .u64 (getL l p n : Int), .bool true]) ∧ Below w.heap.size w w' := by
  refine (word_Get.calls 10 B c l p n _ _ w hC hc ((get_f 10 l p n hb (by omega) (by decide)).1.trans (by unfold getA; rw [if_neg (by omega), Int.toNat_natCast, Int.toNat_natCast]))).mono ?_
  rintro e w' ⟨rfl, hb⟩
  exact ⟨rfl, drawn_below hb⟩
theorem bclone_c {w : World} {A : Option Addr} {c : Nat} {l : List Int} (hC : Kd.C (Kd.int .u8) w A l.length l) (hc : l.length ≤ c) (hl : l.length ≤ 1000) :
    Calls Try.prog 42 #[.slice A l.length c] w fun e w' => ∃ B d, e = .returned (.slice B l.length d) ∧ Own w' w.heap.size B d l ∧ Below w.heap.size w w' := by
  refine (bytes_Clone.calls A c l l w hC hc (by unfold bytes_Clone.f; rw [if_pos (by omega)])).mono ?_
  rintro e w' ⟨v, rfl, ho, hb⟩
  obtain ⟨B, d, rfl, ho2⟩ := own_of ho
  exact ⟨B, d, rfl, ho2, hb⟩
set_option maxRecDepth 100000 in
set_option maxHeartbeats 4000000 in
theorem num33_c {w : World} {g : Nat} {B : Option Addr} {c p n : Nat} {l : List Int} (hg : w.heap[g]? = some (.cells (rdCs B l.length c p 0 true) 75 (0, 0))) (hC : Kd.C (Kd.int .u8) w B l.length l) (hc : l.length ≤ c) (hb : Bytes l) (hl : l.length ≤ 1000) (hn : 1 ≤ n ∧ n ≤ 8) (hp : p + n ≤ l.length) :
    Calls Try.prog 33 #[.pointer (some ⟨g, 0, none⟩), .int .i64 n] w fun e w' => e = .returned (.int .u64 (getL l p n : Int)) ∧ w'.heap[g]? = some (.cells (rdCs B l.length c ((p + n : Nat) : Int) 0 true) 75 (0, 0)) ∧ Fr (· = g) w w' := by
  have K0 := Aside0.mk (Below.refl w.heap.size w)
  have G0 := Aside0.mk hg
  have C0 := Aside0.mk hC
  have HB := Aside0.mk hb
  have HN := Aside0.mk hn
  have HL := Aside0.mk hl
  have HP := Aside0.mk hp
  have hg1 : decide ((n : Int) < 1) = false := decide_eq_false (by omega)
  have hg2 : decide ((n : Int) > 8) = false := decide_eq_false (by omega)
  have hg3 : decide (8 < n) = false := decide_eq_false (by omega)
  have hg4 : decide (n < 1) = false := decide_eq_false (by omega)
  clear hg hC hb hn hl hp
  go_enter Try.func33, Try.ntmps33
  go_wp2_with fail
  refine (none_c G0.out).mono ?_
  rintro e w1 ⟨rfl, hb1⟩
  have K1 := Aside0.mk hb1
  have G1 := Aside0.mk ((hb1.block _ (blk_lt G0.out)).trans G0.out)
  clear hb1
  go_wp2_with fail
  refine (refuse_c G1.out).mono ?_
  rintro e w2 ⟨rfl, hb1⟩
  have K2 := Aside0.mk (K1.out.trans (hb1.mono K1.out.size))
  have G2 := Aside0.mk ((hb1.block _ (blk_lt G1.out)).trans G1.out)
  clear hb1 hg1 hg2 hg3 hg4
  go_wp2_with fail
  refine (can_c G2.out HL.out HP.out).mono ?_
  rintro e w3 ⟨rfl, hb1⟩
  have K3 := Aside0.mk (below_drew (K2.out.trans (hb1.mono K2.out.size)))
  have G3 := Aside0.mk (((below_drew hb1).block _ (blk_lt G2.out)).trans G2.out)
  have C3 := Aside0.mk (Kd.C_below C0.out K3.out)
  clear hb1
  obtain ⟨z0, z1, z2, z3⟩ := rd_cells G3.out
  go_wp2_with fail
  go_region_held3 (fun w' => w'.cell? ⟨g, 0, none⟩ = some (.slice B l.length c) ∧ w'.cell? ⟨g, 1, none⟩ = some (.int .i64 (p : Int)) ∧ w'.cell? ⟨g, 2, none⟩ = some (.int .i64 0) ∧ w'.cell? ⟨g, 3, none⟩ = some (.bool true)) (go_keep)
    (first
      | (go_at_call 46; refine (wget_c C3.out hc HB.out HL.out HN.out HP.out).mono ?_; rintro e wn ⟨rfl, hbn⟩; have KN := Aside0.mk (K3.out.trans (hbn.mono K3.out.size)); have GN := Aside0.mk ((hbn.block _ (blk_lt G3.out)).trans G3.out); clear hbn z0 z1 z2 z3; obtain ⟨z0, z1, z2, z3⟩ := rd_cells GN.out))
  have hwp : wrap64 ((p : Int) + (n : Int)) = ((p + n : Nat) : Int) := by have h1 := HL.out; have h2 := HP.out; rw [w64id (by omega) (by omega)]; rfl
  have y1 := blk_frozen GN.out 1
  go_wp2_with fail
  go_ret
  refine ⟨rfl, ?_, Fr.set (F := (· = g)) (p := ⟨g, 1, none⟩) (Fr.of_below KN.out) rfl _⟩
  rw [blk_set GN.out 1 _]
  simp
end Go.Proofs.Ytojolpamgijcbaa.Pure
