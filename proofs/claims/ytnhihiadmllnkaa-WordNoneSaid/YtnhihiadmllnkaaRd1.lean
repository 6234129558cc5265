/- A reader's operations, by the code: walked. -/
import Derived.Test.YtnhihiadmllnkaaRdM
namespace Go.Proofs.Ytnhihiadmllnkaa.Pure
open Go.RowKit Go.Proofs.Ytnhihiadmllnkaa Go.Proofs.Ytnhihiadmllnkaa.PAll Go.Proofs.Ytnhihiadmllnkaa.Mem Go.Proofs.YtnhihiadmllnkaaW.PrintWords Go.Proofs.YtnhihiadmllnkaaW.PrintLast Go.Proofs.YtnhihiadmllnkaaW.PrintMore
set_option linter.unusedVariables false
set_option linter.unusedSimpArgs false
set_option linter.unusedSectionVars false
attribute [local go_sem high] cutLH cutL cutH

/-- A reader at block g: L is left, e is its error; its bytes lie in U. -/
structure RS (w : World) (g : Nat) (U : Nat → Prop) (L : List Int) (e : Int) : Prop where
  ne : ∀ k, U k → k ≠ g
  out : ∃ (B : Option Addr) (c p : Nat) (l : List Int), w.heap[g]? = some (.cells (rdCs B l.length c p e true) 66 (0, 0)) ∧ Kd.F (Kd.int .u8) w U B l.length l ∧ l.length ≤ c ∧ p ≤ l.length ∧ L = l.drop p ∧ Bytes l ∧ l.length ≤ 140737488351232
theorem RS.fr {w w' : World} {g : Nat} {U F : Nat → Prop} {L : List Int} {e : Int} (h : RS w g U L e) (hf : Fr F w w') (hg : ¬ F g) (hU : ∀ k, U k → ¬ F k) : RS w' g U L e := by
  obtain ⟨ne, B, c, p, l, h1, h2, h3⟩ := h
  exact ⟨ne, B, c, p, l, fr_blk hf h1 hg, F_fr h2 hf hU, h3⟩
theorem RS.below {w w' : World} {g : Nat} {U : Nat → Prop} {L : List Int} {e : Int} (h : RS w g U L e) (hb : Below w.heap.size w w') : RS w' g U L e := h.fr (F := fun _ => False) (Fr.of_below hb) (fun h => h) (fun _ _ h => h)
theorem RS.bytes {w : World} {g : Nat} {U : Nat → Prop} {L : List Int} {e : Int} (h : RS w g U L e) : Bytes L := by
  obtain ⟨ne, B, c, p, l, h1, h2, h3, h4, rfl, h5, h6⟩ := h
  exact fun x hx => h5 x (List.mem_of_mem_drop hx)
theorem RS.len {w : World} {g : Nat} {U : Nat → Prop} {L : List Int} {e : Int} (h : RS w g U L e) : L.length ≤ 140737488351232 := by
  obtain ⟨ne, B, c, p, l, h1, h2, h3, h4, rfl, h5, h6⟩ := h
  rw [List.length_drop]
  omega
theorem RS.lt {w : World} {g : Nat} {U : Nat → Prop} {L : List Int} {e : Int} (h : RS w g U L e) : g < w.heap.size := by
  obtain ⟨ne, B, c, p, l, h1, h2⟩ := h
  exact blk_lt h1
theorem get_c {w : World} {B : Option Addr} {c p n : Nat} {l : List Int} (hC : Kd.C (Kd.int .u8) w B l.length l) (hc : l.length ≤ c) (hb : Bytes l) (hl : l.length ≤ 140737488351232) (hn : 1 ≤ n ∧ n ≤ 8) (hp : p + n ≤ l.length) : Calls Try.prog 14 #[.slice B l.length c, .int .i64 p, .int .i64 n] w fun e w' => e = .returned (.tuple #[.int .u64 (getL l p n : Int), .bool true]) ∧ Below w.heap.size w w' := by
  refine (word_Get.calls 10 B c l p n _ _ w hC hc ((get_f 10 l p n hb (by omega) (by decide)).1.trans (by unfold getA; rw [if_neg (by omega), Int.toNat_natCast, Int.toNat_natCast]))).mono ?_
  rintro e w' ⟨rfl, hb⟩
  exact ⟨rfl, drawn_below hb⟩
theorem part_len {l : List Int} {p n : Nat} (h : p + n ≤ l.length) : ((l.drop p).take n).length = n ∧ (l.take (p + n)).drop p = (l.drop p).take n := by
  refine ⟨by rw [List.length_take, List.length_drop]; omega, ?_⟩
  rw [List.drop_take]
  congr 1
  omega
theorem clone_c {w : World} {A : Option Addr} {c n : Nat} {l : List Int} (hC : Kd.C (Kd.int .u8) w A l.length l) (hn : l.length = n) (hc : n ≤ c) (hl : n ≤ 140737488351232) :
    Calls Try.prog 13 #[.slice A n c] w fun e w' => ∃ B d, e = .returned (.slice B n d) ∧ n ≤ d ∧ Kd.F (Kd.int .u8) w' (fun k => w.heap.size ≤ k) B n l ∧ Below w.heap.size w w' := by
  subst hn
  refine (bytes_Clone.calls A c l l w hC hc (by unfold bytes_Clone.f; rw [if_pos (by omega)])).mono ?_
  rintro e w' ⟨v, rfl, ho, hb⟩
  obtain ⟨B, d, rfl, hd, hF⟩ := Kd.R_reads ho
  exact ⟨B, d, rfl, hd, Kd.F_mono (Kd.R_F (Kd.R_bound ho)) (fun k hk => hk.2.1), hb⟩
section
variable {w : World} {g : Nat} {B : Option Addr} {c p : Nat} {e : Int} {l : List Int} {U : Nat → Prop} (hg : w.heap[g]? = some (.cells (rdCs B l.length c p e true) 66 (0, 0)))
  (hU : ∀ k, U k → k ≠ g) (hF : Kd.F (Kd.int .u8) w U B l.length l) (hc : l.length ≤ c) (hl : l.length ≤ 140737488351232) (hp : p ≤ l.length) (hb : Bytes l)
include hg hU hF hc hl hp hb
set_option maxRecDepth 100000 in
set_option maxHeartbeats 4000000 in
theorem num1 (n : Int) (he : e ≠ 0) : Calls Try.prog 30 #[.pointer (some ⟨g, 0, none⟩), .int .i64 n] w fun ex w' => ex = .returned (.int .u64 0) ∧ w'.heap[g]? = some (.cells (rdCs B l.length c p e true) 66 (0, 0)) ∧ Fr (· = g) w w' := by
  have G0 := Aside0.mk hg
  have HL := Aside0.mk hl
  have HP := Aside0.mk hp
  have FF := Aside0.mk hF
  have UU := Aside0.mk hU
  have BB := Aside0.mk hb
  have HE := Aside0.mk he
  clear hg hl hp hF hU hb
  clear he
  by_cases h1 : n < 1
  ·
    have hg1 : decide (n < 1) = true := decide_eq_true h1
    clear h1
    go_enter Try.func30, Try.ntmps30
    go_wp2_with fail
    refine (none_c G0.out).mono ?_
    rintro ex w1 ⟨rfl, hb1⟩
    have F1 := Aside0.mk (Fr.of_below (F := (· = g)) hb1)
    have G1 := Aside0.mk ((hb1.block _ (blk_lt G0.out)).trans G0.out)
    clear hb1
    go_wp2_with fail
    refine (refuse_c G1.out true 1).mono ?_
    rintro ex w2 ⟨rfl, hG, hf⟩
    rw [if_neg (fun h => HE.out h.2)] at hG
    have F2 := Aside0.mk (F1.out.then_ hf)
    have G2 := Aside0.mk hG
    clear hG hf F1 G1
    go_wp2_with fail
    refine (can_c G2.out HL.out HP.out n).mono ?_
    rintro ex w3 ⟨rfl, hG, hf⟩
    rw [if_neg (fun h => HE.out h.1)] at hG
    rw [decide_eq_false (fun h => HE.out h.1)]
    have F3 := Aside0.mk (F2.out.then_ hf)
    have G3 := Aside0.mk hG
    clear hG hf F2 G2
    go_wp2_with fail
    go_ret
    exact ⟨rfl, G3.out, F3.out⟩
  by_cases h2 : n > 8
  ·
    have hg1 : decide (n < 1) = false := decide_eq_false h1
    have hg2 : decide (n > 8) = true := decide_eq_true h2
    have hg3 : decide (8 < n) = true := decide_eq_true h2
    clear h1 h2
    go_enter Try.func30, Try.ntmps30
    go_wp2_with fail
    refine (none_c G0.out).mono ?_
    rintro ex w1 ⟨rfl, hb1⟩
    have F1 := Aside0.mk (Fr.of_below (F := (· = g)) hb1)
    have G1 := Aside0.mk ((hb1.block _ (blk_lt G0.out)).trans G0.out)
    clear hb1
    go_wp2_with fail
    refine (refuse_c G1.out true 1).mono ?_
    rintro ex w2 ⟨rfl, hG, hf⟩
    rw [if_neg (fun h => HE.out h.2)] at hG
    have F2 := Aside0.mk (F1.out.then_ hf)
    have G2 := Aside0.mk hG
    clear hG hf F1 G1
    go_wp2_with fail
    refine (can_c G2.out HL.out HP.out n).mono ?_
    rintro ex w3 ⟨rfl, hG, hf⟩
    rw [if_neg (fun h => HE.out h.1)] at hG
    rw [decide_eq_false (fun h => HE.out h.1)]
    have F3 := Aside0.mk (F2.out.then_ hf)
    have G3 := Aside0.mk hG
    clear hG hf F2 G2
    go_wp2_with fail
    go_ret
    exact ⟨rfl, G3.out, F3.out⟩
  ·
    have hg1 : decide (n < 1) = false := decide_eq_false h1
    have hg2 : decide (n > 8) = false := decide_eq_false h2
    have hg3 : decide (8 < n) = false := decide_eq_false h2
    clear h1 h2
    go_enter Try.func30, Try.ntmps30
    go_wp2_with fail
    refine (none_c G0.out).mono ?_
    rintro ex w1 ⟨rfl, hb1⟩
    have F1 := Aside0.mk (Fr.of_below (F := (· = g)) hb1)
    have G1 := Aside0.mk ((hb1.block _ (blk_lt G0.out)).trans G0.out)
    clear hb1
    go_wp2_with fail
    refine (refuse_c G1.out false 1).mono ?_
    rintro ex w2 ⟨rfl, hG, hf⟩
    rw [if_neg (fun h => HE.out h.2)] at hG
    have F2 := Aside0.mk (F1.out.then_ hf)
    have G2 := Aside0.mk hG
    clear hG hf F1 G1
    go_wp2_with fail
    refine (can_c G2.out HL.out HP.out n).mono ?_
    rintro ex w3 ⟨rfl, hG, hf⟩
    rw [if_neg (fun h => HE.out h.1)] at hG
    rw [decide_eq_false (fun h => HE.out h.1)]
    have F3 := Aside0.mk (F2.out.then_ hf)
    have G3 := Aside0.mk hG
    clear hG hf F2 G2
    go_wp2_with fail
    go_ret
    exact ⟨rfl, G3.out, F3.out⟩
set_option maxRecDepth 100000 in
set_option maxHeartbeats 4000000 in
theorem num2 (n : Int) (he : e = 0) (hn : n < 1 ∨ n > 8) : Calls Try.prog 30 #[.pointer (some ⟨g, 0, none⟩), .int .i64 n] w fun ex w' => ex = .returned (.int .u64 0) ∧ w'.heap[g]? = some (.cells (rdCs B l.length c p 1 true) 66 (0, 0)) ∧ Fr (· = g) w w' := by
  subst he
  have G0 := Aside0.mk hg
  have HL := Aside0.mk hl
  have HP := Aside0.mk hp
  have FF := Aside0.mk hF
  have UU := Aside0.mk hU
  have BB := Aside0.mk hb
  clear hg hl hp hF hU hb
  rcases Int.lt_or_le n 1 with h1 | h1
  ·
    have hg1 : decide (n < 1) = true := decide_eq_true h1
    clear h1 hn
    go_enter Try.func30, Try.ntmps30
    go_wp2_with fail
    refine (none_c G0.out).mono ?_
    rintro ex w1 ⟨rfl, hb1⟩
    have F1 := Aside0.mk (Fr.of_below (F := (· = g)) hb1)
    have G1 := Aside0.mk ((hb1.block _ (blk_lt G0.out)).trans G0.out)
    clear hb1
    go_wp2_with fail
    refine (refuse_c G1.out true 1).mono ?_
    rintro ex w2 ⟨rfl, hG, hf⟩
    rw [if_pos ⟨rfl, rfl⟩] at hG
    have F2 := Aside0.mk (F1.out.then_ hf)
    have G2 := Aside0.mk hG
    clear hG hf F1 G1
    go_wp2_with fail
    refine (can_c G2.out HL.out HP.out n).mono ?_
    rintro ex w3 ⟨rfl, hG, hf⟩
    rw [if_neg (fun h => absurd h.1 (by decide))] at hG
    rw [decide_eq_false (fun h => absurd h.1 (by decide))]
    have F3 := Aside0.mk (F2.out.then_ hf)
    have G3 := Aside0.mk hG
    clear hG hf F2 G2
    go_wp2_with fail
    go_ret
    exact ⟨rfl, G3.out, F3.out⟩
  ·
    have h2 : n > 8 := by omega
    have hg1 : decide (n < 1) = false := decide_eq_false (by omega)
    have hg2 : decide (n > 8) = true := decide_eq_true h2
    have hg3 : decide (8 < n) = true := decide_eq_true h2
    clear h1 h2 hn
    go_enter Try.func30, Try.ntmps30
    go_wp2_with fail
    refine (none_c G0.out).mono ?_
    rintro ex w1 ⟨rfl, hb1⟩
    have F1 := Aside0.mk (Fr.of_below (F := (· = g)) hb1)
    have G1 := Aside0.mk ((hb1.block _ (blk_lt G0.out)).trans G0.out)
    clear hb1
    go_wp2_with fail
    refine (refuse_c G1.out true 1).mono ?_
    rintro ex w2 ⟨rfl, hG, hf⟩
    rw [if_pos ⟨rfl, rfl⟩] at hG
    have F2 := Aside0.mk (F1.out.then_ hf)
    have G2 := Aside0.mk hG
    clear hG hf F1 G1
    go_wp2_with fail
    refine (can_c G2.out HL.out HP.out n).mono ?_
    rintro ex w3 ⟨rfl, hG, hf⟩
    rw [if_neg (fun h => absurd h.1 (by decide))] at hG
    rw [decide_eq_false (fun h => absurd h.1 (by decide))]
    have F3 := Aside0.mk (F2.out.then_ hf)
    have G3 := Aside0.mk hG
    clear hG hf F2 G2
    go_wp2_with fail
    go_ret
    exact ⟨rfl, G3.out, F3.out⟩
set_option maxRecDepth 100000 in
set_option maxHeartbeats 4000000 in
theorem num3 (n : Int) (he : e = 0) (hn : ¬ (n < 1 ∨ n > 8)) (hs : n > ((l.length - p : Nat) : Int)) : Calls Try.prog 30 #[.pointer (some ⟨g, 0, none⟩), .int .i64 n] w fun ex w' => ex = .returned (.int .u64 0) ∧ w'.heap[g]? = some (.cells (rdCs B l.length c p 10 true) 66 (0, 0)) ∧ Fr (· = g) w w' := by
  subst he
  have G0 := Aside0.mk hg
  have HL := Aside0.mk hl
  have HP := Aside0.mk hp
  have FF := Aside0.mk hF
  have UU := Aside0.mk hU
  have BB := Aside0.mk hb
  have HS := Aside0.mk hs
  clear hg hl hp hF hU hb
  clear hs
  have hg1 : decide (n < 1) = false := decide_eq_false (by omega)
  have hg2 : decide (n > 8) = false := decide_eq_false (by omega)
  have hg3 : decide (8 < n) = false := decide_eq_false (by omega)
  clear hn
  go_enter Try.func30, Try.ntmps30
  go_wp2_with fail
  refine (none_c G0.out).mono ?_
  rintro ex w1 ⟨rfl, hb1⟩
  have F1 := Aside0.mk (Fr.of_below (F := (· = g)) hb1)
  have G1 := Aside0.mk ((hb1.block _ (blk_lt G0.out)).trans G0.out)
  clear hb1
  go_wp2_with fail
  refine (refuse_c G1.out false 1).mono ?_
  rintro ex w2 ⟨rfl, hG, hf⟩
  rw [if_neg (fun h => absurd h.1 (by decide))] at hG
  have F2 := Aside0.mk (F1.out.then_ hf)
  have G2 := Aside0.mk hG
  clear hG hf F1 G1
  go_wp2_with fail
  refine (can_c G2.out HL.out HP.out n).mono ?_
  rintro ex w3 ⟨rfl, hG, hf⟩
  rw [if_pos ⟨rfl, HS.out⟩] at hG
  rw [decide_eq_false (fun h => h.2 HS.out)]
  have F3 := Aside0.mk (F2.out.then_ hf)
  have G3 := Aside0.mk hG
  clear hG hf F2 G2
  go_wp2_with fail
  go_ret
  exact ⟨rfl, G3.out, F3.out⟩
set_option maxRecDepth 100000 in
set_option maxHeartbeats 4000000 in
theorem num4 (n : Nat) (he : e = 0) (hn : 1 ≤ n ∧ n ≤ 8) (hs : p + n ≤ l.length) : Calls Try.prog 30 #[.pointer (some ⟨g, 0, none⟩), .int .i64 n] w fun ex w' => ex = .returned (.int .u64 (getL l p n : Int)) ∧ w'.heap[g]? = some (.cells (rdCs B l.length c ((p + n : Nat) : Int) 0 true) 66 (0, 0)) ∧ Fr (· = g) w w' := by
  subst he
  have G0 := Aside0.mk hg
  have HL := Aside0.mk hl
  have HP := Aside0.mk hp
  have FF := Aside0.mk hF
  have UU := Aside0.mk hU
  have BB := Aside0.mk hb
  have HS := Aside0.mk hs
  have HN := Aside0.mk hn
  have hg1 : decide ((n : Int) < 1) = false := decide_eq_false (by omega)
  have hg2 : decide ((n : Int) > 8) = false := decide_eq_false (by omega)
  have hg3 : decide (8 < n) = false := decide_eq_false (by omega)
  have hg4 : decide (n < 1) = false := decide_eq_false (by omega)
  have HM := Aside0.mk (show (n : Int) ≤ ((l.length - p : Nat) : Int) by omega)
  clear hg hl hp hF hU hb
  clear hs hn
  go_enter Try.func30, Try.ntmps30
  go_wp2_with fail
  refine (none_c G0.out).mono ?_
  rintro ex w1 ⟨rfl, hb1⟩
  have F1 := Aside0.mk (Fr.of_below (F := (· = g)) hb1)
  have G1 := Aside0.mk ((hb1.block _ (blk_lt G0.out)).trans G0.out)
  clear hb1
  go_wp2_with fail
  refine (refuse_c G1.out false 1).mono ?_
  rintro ex w2 ⟨rfl, hG, hf⟩
  rw [if_neg (fun h => absurd h.1 (by decide))] at hG
  have F2 := Aside0.mk (F1.out.then_ hf)
  have G2 := Aside0.mk hG
  clear hG hf F1 G1
  clear hg1 hg2 hg3 hg4
  go_wp2_with fail
  refine (can_c G2.out HL.out HP.out n).mono ?_
  rintro ex w3 ⟨rfl, hG, hf⟩
  rw [if_neg (fun h => Int.not_lt.2 HM.out h.2)] at hG
  rw [decide_eq_true ⟨rfl, Int.not_lt.2 HM.out⟩]
  have F3 := Aside0.mk (F2.out.then_ hf)
  have G3 := Aside0.mk hG
  clear hG hf F2 G2
  have F4 := Aside0.mk (F3.out.then_ (Fr.of_below (below_drew (Below.refl w3.heap.size w3))))
  have G4 := Aside0.mk (show w3.drew.heap[g]? = _ from G3.out)
  have C4 := Aside0.mk (Kd.F_now (F_fr FF.out F4.out UU.out))
  obtain ⟨z0, z1, z2, z3⟩ := rd_cells G4.out
  clear F3 G3
  go_wp2_with fail
  go_region_held3 (fun w' => w'.cell? ⟨g, 0, none⟩ = some (.slice B l.length c) ∧ w'.cell? ⟨g, 1, none⟩ = some (.int .i64 (p : Int)) ∧ w'.cell? ⟨g, 2, none⟩ = some (.int .i64 0) ∧ w'.cell? ⟨g, 3, none⟩ = some (.bool true)) (go_keep)
    (first
      | (go_at_call 14; refine (get_c C4.out hc BB.out HL.out HN.out HS.out).mono ?_; rintro e wn ⟨rfl, hbn⟩; have FN := Aside0.mk (F4.out.then_ (Fr.of_below hbn)); have GN := Aside0.mk ((hbn.block _ (blk_lt G4.out)).trans G4.out); clear hbn z0 z1 z2 z3; obtain ⟨z0, z1, z2, z3⟩ := rd_cells GN.out))
  have hwp : wrap64 ((p : Int) + (n : Int)) = ((p + n : Nat) : Int) := by have h1 := HL.out; have h2 := HS.out; rw [w64id (by omega) (by omega)]; rfl
  have y1 := blk_frozen GN.out 1
  go_wp2_with fail
  go_ret
  refine ⟨rfl, ?_, Fr.set (F := (· = g)) (p := ⟨g, 1, none⟩) FN.out rfl _⟩
  rw [blk_set GN.out 1 _]
  simp
set_option maxRecDepth 100000 in
set_option maxHeartbeats 4000000 in
theorem byt1 (n : Int) (he : e ≠ 0) : Calls Try.prog 32 #[.pointer (some ⟨g, 0, none⟩), .int .i64 n] w fun ex w' => ex = .returned (.slice none 0 0) ∧ w'.heap[g]? = some (.cells (rdCs B l.length c p e true) 66 (0, 0)) ∧ Fr (· = g) w w' := by
  have G0 := Aside0.mk hg
  have HL := Aside0.mk hl
  have HP := Aside0.mk hp
  have FF := Aside0.mk hF
  have UU := Aside0.mk hU
  have BB := Aside0.mk hb
  have HE := Aside0.mk he
  clear hg hl hp hF hU hb
  clear he
  by_cases h1 : n < 0
  ·
    have hg1 : decide (n < 0) = true := decide_eq_true h1
    clear h1
    go_enter Try.func32, Try.ntmps32
    go_wp2_with fail
    refine (none_c G0.out).mono ?_
    rintro ex w1 ⟨rfl, hb1⟩
    have F1 := Aside0.mk (Fr.of_below (F := (· = g)) hb1)
    have G1 := Aside0.mk ((hb1.block _ (blk_lt G0.out)).trans G0.out)
    clear hb1
    go_wp2_with fail
    refine (refuse_c G1.out true 1).mono ?_
    rintro ex w2 ⟨rfl, hG, hf⟩
    rw [if_neg (fun h => HE.out h.2)] at hG
    have F2 := Aside0.mk (F1.out.then_ hf)
    have G2 := Aside0.mk hG
    clear hG hf F1 G1
    go_wp2_with fail
    refine (can_c G2.out HL.out HP.out n).mono ?_
    rintro ex w3 ⟨rfl, hG, hf⟩
    rw [if_neg (fun h => HE.out h.1)] at hG
    rw [decide_eq_false (fun h => HE.out h.1)]
    have F3 := Aside0.mk (F2.out.then_ hf)
    have G3 := Aside0.mk hG
    clear hG hf F2 G2
    go_wp2_with fail
    go_ret
    exact ⟨rfl, G3.out, F3.out⟩
  ·
    have hg1 : decide (n < 0) = false := decide_eq_false h1
    clear h1
    go_enter Try.func32, Try.ntmps32
    go_wp2_with fail
    refine (none_c G0.out).mono ?_
    rintro ex w1 ⟨rfl, hb1⟩
    have F1 := Aside0.mk (Fr.of_below (F := (· = g)) hb1)
    have G1 := Aside0.mk ((hb1.block _ (blk_lt G0.out)).trans G0.out)
    clear hb1
    go_wp2_with fail
    refine (refuse_c G1.out false 1).mono ?_
    rintro ex w2 ⟨rfl, hG, hf⟩
    rw [if_neg (fun h => HE.out h.2)] at hG
    have F2 := Aside0.mk (F1.out.then_ hf)
    have G2 := Aside0.mk hG
    clear hG hf F1 G1
    go_wp2_with fail
    refine (can_c G2.out HL.out HP.out n).mono ?_
    rintro ex w3 ⟨rfl, hG, hf⟩
    rw [if_neg (fun h => HE.out h.1)] at hG
    rw [decide_eq_false (fun h => HE.out h.1)]
    have F3 := Aside0.mk (F2.out.then_ hf)
    have G3 := Aside0.mk hG
    clear hG hf F2 G2
    go_wp2_with fail
    go_ret
    exact ⟨rfl, G3.out, F3.out⟩
set_option maxRecDepth 100000 in
set_option maxHeartbeats 4000000 in
theorem byt2 (n : Int) (he : e = 0) (hn : n < 0) : Calls Try.prog 32 #[.pointer (some ⟨g, 0, none⟩), .int .i64 n] w fun ex w' => ex = .returned (.slice none 0 0) ∧ w'.heap[g]? = some (.cells (rdCs B l.length c p 1 true) 66 (0, 0)) ∧ Fr (· = g) w w' := by
  subst he
  have G0 := Aside0.mk hg
  have HL := Aside0.mk hl
  have HP := Aside0.mk hp
  have FF := Aside0.mk hF
  have UU := Aside0.mk hU
  have BB := Aside0.mk hb
  clear hg hl hp hF hU hb
  have hg1 : decide (n < 0) = true := decide_eq_true hn
  clear hn
  go_enter Try.func32, Try.ntmps32
  go_wp2_with fail
  refine (none_c G0.out).mono ?_
  rintro ex w1 ⟨rfl, hb1⟩
  have F1 := Aside0.mk (Fr.of_below (F := (· = g)) hb1)
  have G1 := Aside0.mk ((hb1.block _ (blk_lt G0.out)).trans G0.out)
  clear hb1
  go_wp2_with fail
  refine (refuse_c G1.out true 1).mono ?_
  rintro ex w2 ⟨rfl, hG, hf⟩
  rw [if_pos ⟨rfl, rfl⟩] at hG
  have F2 := Aside0.mk (F1.out.then_ hf)
  have G2 := Aside0.mk hG
  clear hG hf F1 G1
  go_wp2_with fail
  refine (can_c G2.out HL.out HP.out n).mono ?_
  rintro ex w3 ⟨rfl, hG, hf⟩
  rw [if_neg (fun h => absurd h.1 (by decide))] at hG
  rw [decide_eq_false (fun h => absurd h.1 (by decide))]
  have F3 := Aside0.mk (F2.out.then_ hf)
  have G3 := Aside0.mk hG
  clear hG hf F2 G2
  go_wp2_with fail
  go_ret
  exact ⟨rfl, G3.out, F3.out⟩
set_option maxRecDepth 100000 in
set_option maxHeartbeats 4000000 in
theorem byt3 (n : Int) (he : e = 0) (hn : ¬ n < 0) (hs : n > ((l.length - p : Nat) : Int)) : Calls Try.prog 32 #[.pointer (some ⟨g, 0, none⟩), .int .i64 n] w fun ex w' => ex = .returned (.slice none 0 0) ∧ w'.heap[g]? = some (.cells (rdCs B l.length c p 10 true) 66 (0, 0)) ∧ Fr (· = g) w w' := by
  subst he
  have G0 := Aside0.mk hg
  have HL := Aside0.mk hl
  have HP := Aside0.mk hp
  have FF := Aside0.mk hF
  have UU := Aside0.mk hU
  have BB := Aside0.mk hb
  have HS := Aside0.mk hs
  clear hg hl hp hF hU hb
  clear hs
  have hg1 : decide (n < 0) = false := decide_eq_false hn
  clear hn
  go_enter Try.func32, Try.ntmps32
  go_wp2_with fail
  refine (none_c G0.out).mono ?_
  rintro ex w1 ⟨rfl, hb1⟩
  have F1 := Aside0.mk (Fr.of_below (F := (· = g)) hb1)
  have G1 := Aside0.mk ((hb1.block _ (blk_lt G0.out)).trans G0.out)
  clear hb1
  go_wp2_with fail
  refine (refuse_c G1.out false 1).mono ?_
  rintro ex w2 ⟨rfl, hG, hf⟩
  rw [if_neg (fun h => absurd h.1 (by decide))] at hG
  have F2 := Aside0.mk (F1.out.then_ hf)
  have G2 := Aside0.mk hG
  clear hG hf F1 G1
  go_wp2_with fail
  refine (can_c G2.out HL.out HP.out n).mono ?_
  rintro ex w3 ⟨rfl, hG, hf⟩
  rw [if_pos ⟨rfl, HS.out⟩] at hG
  rw [decide_eq_false (fun h => h.2 HS.out)]
  have F3 := Aside0.mk (F2.out.then_ hf)
  have G3 := Aside0.mk hG
  clear hG hf F2 G2
  go_wp2_with fail
  go_ret
  exact ⟨rfl, G3.out, F3.out⟩
set_option maxRecDepth 100000 in
set_option maxHeartbeats 4000000 in
theorem byt4 (n : Nat) (he : e = 0) (hs : p + n ≤ l.length) : Calls Try.prog 32 #[.pointer (some ⟨g, 0, none⟩), .int .i64 n] w fun ex w' => (∃ A m, ex = .returned (.slice A n m) ∧ n ≤ m ∧ Kd.F (Kd.int .u8) w' (fun k => w.heap.size ≤ k) A n ((l.drop p).take n)) ∧ w'.heap[g]? = some (.cells (rdCs B l.length c ((p + n : Nat) : Int) 0 true) 66 (0, 0)) ∧ Fr (· = g) w w' := by
  subst he
  have G0 := Aside0.mk hg
  have HL := Aside0.mk hl
  have HP := Aside0.mk hp
  have FF := Aside0.mk hF
  have UU := Aside0.mk hU
  have BB := Aside0.mk hb
  have HS := Aside0.mk hs
  have hg1 : decide ((n : Int) < 0) = false := decide_eq_false (by omega)
  have HM := Aside0.mk (show (n : Int) ≤ ((l.length - p : Nat) : Int) by omega)
  clear hg hl hp hF hU hb
  clear hs
  go_enter Try.func32, Try.ntmps32
  go_wp2_with fail
  refine (none_c G0.out).mono ?_
  rintro ex w1 ⟨rfl, hb1⟩
  have F1 := Aside0.mk (Fr.of_below (F := (· = g)) hb1)
  have G1 := Aside0.mk ((hb1.block _ (blk_lt G0.out)).trans G0.out)
  clear hb1
  go_wp2_with fail
  refine (refuse_c G1.out false 1).mono ?_
  rintro ex w2 ⟨rfl, hG, hf⟩
  rw [if_neg (fun h => absurd h.1 (by decide))] at hG
  have F2 := Aside0.mk (F1.out.then_ hf)
  have G2 := Aside0.mk hG
  clear hG hf F1 G1
  go_wp2_with fail
  refine (can_c G2.out HL.out HP.out n).mono ?_
  rintro ex w3 ⟨rfl, hG, hf⟩
  rw [if_neg (fun h => Int.not_lt.2 HM.out h.2)] at hG
  rw [decide_eq_true ⟨rfl, Int.not_lt.2 HM.out⟩]
  have F3 := Aside0.mk (F2.out.then_ hf)
  have G3 := Aside0.mk hG
  clear hG hf F2 G2
  obtain ⟨z0, z1, z2, z3⟩ := rd_cells G3.out
  have y1 := blk_frozen G3.out 1
  have hwp : wrap64 ((p : Int) + (n : Int)) = ((p + n : Nat) : Int) := by have h1 := HL.out; have h2 := HS.out; rw [w64id (by omega) (by omega)]; rfl
  have G4 := Aside0.mk (show (w3.setCell ⟨g, 1, none⟩ (.int .i64 ((p + n : Nat) : Int))).heap[g]? = some (.cells (rdCs B l.length c ((p + n : Nat) : Int) 0 true) 66 (0, 0)) from by rw [blk_set G3.out 1 _]; simp)
  have F4 := Aside0.mk (Fr.set (F := (· = g)) (p := ⟨g, 1, none⟩) F3.out rfl (.int .i64 ((p + n : Nat) : Int)))
  clear G3 F3
  have LT := Aside0.mk (part_len HS.out)
  have FM := Aside0.mk (F_midP (c := c) (F_fr FF.out F4.out UU.out) (show p ≤ p + n by omega) HS.out hc)
  rw [LT.out.2, LT.out.1] at FM
  go_upto_region 7 with fail
  obtain ⟨s, hs⟩ : ∃ s, s = p + n := ⟨_, rfl⟩
  have hpn : (p : Int) + (n : Int) = (s : Int) := by rw [hs]; rfl
  rw [hpn]
  clear z0 z1 z2 z3 y1 hwp
  rw [← hs] at G4 F4 FM
  obtain ⟨wS, hwS⟩ : ∃ x, x = w3.setCell ⟨g, 1, none⟩ (.int .i64 (s : Int)) := ⟨_, rfl⟩
  rw [← hwS] at G4 F4 FM ⊢
  have SS := Aside0.mk hs
  have hw0 : wrap64 ((s : Int) - (n : Int)) = (p : Int) := by have h1 := HL.out; have h2 := HS.out; rw [w64id (by omega) (by omega)]; omega
  have hw1 : IntKind.i64.wrap ((s : Int) - (n : Int)) = (p : Int) := by rw [← hw0, i64_w]
  have hw2 : wrap64 (p : Int) = (p : Int) := by have h1 := HL.out; have h2 := HS.out; rw [w64id (by omega) (by omega)]
  have hw3 : IntKind.i64.wrap (p : Int) = (p : Int) := by rw [i64_w]; exact hw2
  have hcut := cutLH B l.length c p s (by omega) (by have := HS.out; omega)
  have hsp : s - p = n := by omega
  clear hcut
  have hb1 : p ≤ s := by omega
  have hb2 : s ≤ c := by have := HS.out; omega
  have hb3 : (0 : Int) ≤ (p : Int) := by omega
  have hb4 : (p : Int) ≤ (s : Int) := by omega
  have hb5 : (s : Int) ≤ (c : Int) := by omega
  clear hwS hpn hs
  have FD := Aside0.mk (F_fr (F := (· = g)) FM.out (Fr.of_below (below_drew (Below.refl _ _))) UU.out)
  have CN := Aside0.mk (show n ≤ c - p from by have := HS.out; omega)
  have G5 := Aside0.mk (show wS.drew.heap[g]? = _ from G4.out)
  have F5 := Aside0.mk (F4.out.then_ (Fr.of_below (F := (· = g)) (below_drew (Below.refl _ _))))
  obtain ⟨q, hq⟩ : ∃ q, q = (l.drop p).take n := ⟨_, rfl⟩
  rw [← hq] at FD
  have HQ := Aside0.mk hq
  obtain ⟨z0, z1, z2, z3⟩ := rd_cells G4.out
  have QL := Aside0.mk (show q.length = n from by rw [hq]; exact LT.out.1)
  have CD := Aside0.mk (show Kd.C (Kd.int .u8) wS.drew (cutP B c p) q.length q from by rw [QL.out]; exact Kd.F_now FD.out)
  clear hq FM F4 LT FD
  go_region_held3 (fun w' => w'.cell? ⟨g, 0, none⟩ = some (.slice B l.length c) ∧ w'.cell? ⟨g, 1, none⟩ = some (.int .i64 (s : Int)) ∧ w'.cell? ⟨g, 2, none⟩ = some (.int .i64 0) ∧ w'.cell? ⟨g, 3, none⟩ = some (.bool true)) (go_keep)
    (first
      | (go_at_call 13; refine (clone_c (n := n) CD.out QL.out CN.out (by have := HS.out; have := HL.out; omega)).mono ?_; rintro e wn ⟨A, m, rfl, hnm, hA, hbn⟩; have FN := Aside0.mk (F5.out.then_ (Fr.of_below hbn)); have GN := Aside0.mk ((hbn.block _ (blk_lt G5.out)).trans G5.out); have AA := Aside0.mk hA; have SZ := Aside0.mk F5.out.size; clear hbn hA z0 z1 z2 z3; obtain ⟨z0, z1, z2, z3⟩ := rd_cells GN.out))
  go_wp2_with fail
  go_ret
  rw [← HQ.out, ← SS.out]
  exact ⟨⟨A, m, rfl, hnm, Kd.F_mono AA.out (fun k hk => Nat.le_trans SZ.out hk)⟩, GN.out, FN.out⟩
end
end Go.Proofs.Ytnhihiadmllnkaa.Pure
