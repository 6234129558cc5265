/- A reader that no call made, and rows in blocks of their own: contracts, walked. -/
import Derived.Test.YtnhihiadmllnkaaRd4
import Derived.Test.YtnhihiadmllnkaaSealed
import Derived.Test.YtnhihiadmllnkaaPAllx10
import Derived.Test.YtnhihiadmllnkaaPAllx11
namespace Go.Proofs.Ytnhihiadmllnkaa.Pure
open Go.RowKit Go.Proofs.Ytnhihiadmllnkaa Go.Proofs.Ytnhihiadmllnkaa.PAll Go.Proofs.Ytnhihiadmllnkaa.Mem Go.Proofs.YtnhihiadmllnkaaW.PrintWords Go.Proofs.YtnhihiadmllnkaaW.PrintLast Go.Proofs.YtnhihiadmllnkaaW.PrintMore
set_option linter.unusedVariables false
set_option linter.unusedSimpArgs false
set_option linter.unusedSectionVars false
attribute [local go_sem high] cutLH cutL cutH

/-- A row's bytes, and if it has any, the block of the call's own in which it lies. -/
structure Own (w : World) (base : Nat) (A : Option Addr) (c : Nat) (l : List Int) : Prop where
  cap : l.length ≤ c
  C : Kd.C (Kd.int .u8) w A l.length l
  blk : 0 < l.length → ∃ g cur, A = some ⟨g, 0, none⟩ ∧ base ≤ g ∧ w.heap[g]? = some (.cells (List.toArray cur) 5 (0, 0)) ∧ cur.take l.length = encs (Value.int .u8) l
theorem own_of {w : World} {base : Nat} {ok : Nat → Prop} {v : Value} {l : List Int} (h : Kd.R (Kd.int .u8) 5 w base ok v l) : ∃ A c, v = .slice A l.length c ∧ Own w base A c l := by
  obtain ⟨A, c, rfl, hc, hC⟩ := Kd.R_reads h
  refine ⟨A, c, rfl, hc, hC, fun hp => ?_⟩
  obtain ⟨g, cap, cur, hv, hb, _, hh, hn, hm, hs, ht⟩ := row_blk (enc := Value.int .u8) (h1 := fun _ => rfl) h hp
  injection hv with h1 h2 h3
  exact ⟨g, cur, h1, hb, hh, ht⟩
theorem own_kept {w w1 : World} {base : Nat} {A : Option Addr} {c : Nat} {l : List Int} (h : Own w base A c l) (hk : ∀ g, 0 < l.length → A = some ⟨g, 0, none⟩ → w1.heap[g]? = w.heap[g]?) : Own w1 base A c l := by
  refine ⟨h.cap, ?_, fun hp => ?_⟩
  · rcases Nat.eq_zero_or_pos l.length with h0 | hp
    · exact ⟨rfl, h.C.2.1, fun h1 => absurd h1 (by omega)⟩
    · obtain ⟨g, cur, h1, h2, h3, h4⟩ := h.blk hp
      rw [h1]
      exact blk_C (enc := Value.int .u8) (h1 := fun _ => rfl) ((hk g hp h1).trans h3) (by simpa using h4) h.C.2.1
  · obtain ⟨g, cur, h1, h2, h3, h4⟩ := h.blk hp
    exact ⟨g, cur, h1, h2, (hk g hp h1).trans h3, h4⟩
theorem own_lt {w : World} {base : Nat} {A : Option Addr} {c : Nat} {l : List Int} (h : Own w base A c l) : ∀ g, 0 < l.length → A = some ⟨g, 0, none⟩ → base ≤ g ∧ g < w.heap.size := fun g hp hA => by
  obtain ⟨g', cur, h1, h2, h3, h4⟩ := h.blk hp
  rw [hA] at h1
  injection h1 with h1
  injection h1 with h1
  subst h1
  exact ⟨h2, blk_lt h3⟩
theorem own_below {w w1 : World} {base : Nat} {A : Option Addr} {c : Nat} {l : List Int} (h : Own w base A c l) (hb : Below w.heap.size w w1) : Own w1 base A c l := own_kept h (fun g hp hA => hb.block _ (own_lt h g hp hA).2)
theorem own_fr {w w1 : World} {base : Nat} {A : Option Addr} {c : Nat} {l : List Int} {F : Nat → Prop} (h : Own w base A c l) (hf : Fr F w w1) (hn : ∀ g, 0 < l.length → A = some ⟨g, 0, none⟩ → ¬ F g) : Own w1 base A c l := own_kept h (fun g hp hA => hf.block _ (own_lt h g hp hA).2 (hn g hp hA))
theorem own_lower {w : World} {b b0 : Nat} {A : Option Addr} {c : Nat} {l : List Int} (h : Own w b A c l) (hb : b0 ≤ b) : Own w b0 A c l := ⟨h.cap, h.C, fun hp => by
  obtain ⟨g, cur, h1, h2, h3⟩ := h.blk hp
  exact ⟨g, cur, h1, Nat.le_trans hb h2, h3⟩⟩
def RowAt (w : World) (g n : Nat) : Prop := 0 < n → ∃ cur : List Value, w.heap[g]? = some (.cells cur.toArray 5 (0, 0)) ∧ ∀ j, j < n → ∃ x, cur[j]? = some (.int .u8 x)
/-- The block in which a row lies; of a row without an element: one that is not there yet. -/
theorem pick_blk {w : World} {base : Nat} {A : Option Addr} {c : Nat} {l : List Int} (h : Own w base A c l) (hb : base ≤ w.heap.size) :
    ∃ g, base ≤ g ∧ ((l.length = 0 ∧ g = w.heap.size) ∨ (0 < l.length ∧ A = some ⟨g, 0, none⟩ ∧ g < w.heap.size)) ∧ RowAt w g l.length := by
  rcases Nat.eq_zero_or_pos l.length with h0 | hp
  · exact ⟨w.heap.size, hb, .inl ⟨h0, rfl⟩, fun hp => absurd hp (by omega)⟩
  · obtain ⟨g, cur, h1, h2, h3, h4⟩ := h.blk hp
    refine ⟨g, h2, .inr ⟨hp, h1, blk_lt h3⟩, fun _ => ⟨cur, h3, fun j hj => ⟨l[j], ?_⟩⟩⟩
    have := getD_of (L := cur) (xs := l) (o := 0) (enc := Value.int .u8) (by simpa using h4) j hj
    rwa [Nat.zero_add] at this
theorem rowAt_cell {w : World} {g n : Nat} (h : RowAt w g n) {k : Nat} (hk : k < n) : ∃ x, w.cell? ⟨g, k, none⟩ = some (.int .u8 x) ∧ w.frozen? ⟨g, k, none⟩ = false := by
  obtain ⟨cur, h1, h2⟩ := h (by omega)
  obtain ⟨x, hx⟩ := h2 k hk
  exact ⟨x, by rw [blk_cell h1]; simpa using hx, blk_frozen h1 k⟩
theorem rowAt_set {w : World} {g n : Nat} (h : RowAt w g n) (k : Nat) (y : Int) : RowAt (w.setCell ⟨g, k, none⟩ (.int .u8 y)) g n := fun hp => by
  obtain ⟨cur, h1, h2⟩ := h hp
  refine ⟨cur.set k (.int .u8 y), by rw [blk_set h1]; simp, fun j hj => ?_⟩
  rw [List.getElem?_set]
  by_cases e : k = j
  · subst e
    obtain ⟨x, hx⟩ := h2 k hj
    have hlt : k < cur.length := (List.getElem?_eq_some_iff.1 hx).1
    rw [if_pos rfl, if_pos hlt]
    exact ⟨y, rfl⟩
  · rw [if_neg e]
    exact h2 j hj
theorem rowAt_kept {w w1 : World} {g n : Nat} (h : RowAt w g n) (hk : 0 < n → w1.heap[g]? = w.heap[g]?) : RowAt w1 g n := fun hp => by
  obtain ⟨cur, h1, h2⟩ := h hp
  exact ⟨cur, (hk hp).trans h1, h2⟩
theorem clone_o {w : World} {A : Option Addr} {c n : Nat} {l : List Int} (hC : Kd.C (Kd.int .u8) w A l.length l) (hn : l.length = n) (hc : n ≤ c) (hl : n ≤ 140737488351232) :
    Calls Try.prog 13 #[.slice A n c] w fun e w' => ∃ B d, e = .returned (.slice B n d) ∧ Own w' w.heap.size B d l ∧ Below w.heap.size w w' := by
  subst hn
  refine (bytes_Clone.calls A c l l w hC hc (by unfold bytes_Clone.f; rw [if_pos (by omega)])).mono ?_
  rintro e w' ⟨v, rfl, ho, hb⟩
  obtain ⟨B, d, rfl, hO⟩ := own_of ho
  exact ⟨B, d, rfl, hO, hb⟩
theorem seal_o {w : World} {A : Option Addr} {c : Nat} {l : List Int} (hC : Kd.C (Kd.int .u8) w A l.length l) (hc : l.length ≤ c) (hl : l.length ≤ 140737488351232) (hb : Bytes l) :
    Calls Try.prog 27 #[.slice A l.length c] w fun e w' => ∃ B d, e = .returned (.slice B (sealA l).length d) ∧ Own w' w.heap.size B d (sealA l) ∧ Below w.heap.size w w' := by
  refine (word_Seal.calls (10 * l.length + 10) (fun k => k < w.heap.size) A c l (sealA l) w ⟨A, c, rfl, hc, Kd.C_F (Kd.heap_int _) hC⟩ (seal_f l hb (by omega) _ (Nat.le_refl _)).1).mono ?_
  rintro e w' ⟨v, rfl, ho, hb⟩
  obtain ⟨B, d, rfl, hO⟩ := own_of ho
  exact ⟨B, d, rfl, hO, hb⟩
theorem unseal_o {w : World} {A : Option Addr} {c : Nat} {l : List Int} (hC : Kd.C (Kd.int .u8) w A (sealA l).length (sealA l)) (hc : (sealA l).length ≤ c) (hl : l.length ≤ 140737488351232) (hb : Bytes l) :
    Calls Try.prog 23 #[.slice A (sealA l).length c] w fun e w' => ∃ B d, e = .returned (.tuple #[.slice B l.length d, .int .i64 0]) ∧ Own w' w.heap.size B d l ∧ Below w.heap.size w w' := by
  have h := (unseal_f (sealA l) (seal_bytes hb) (by rw [seal_length]; omega) (10 * (sealA l).length + 10) (Nat.le_refl _)).1
  rw [unseal_seal l hb] at h
  refine (word_Unseal.calls _ A c (sealA l) l 0 w hC hc h).mono ?_
  rintro e w' ⟨v, rfl, ho, hb⟩
  obtain ⟨B, d, rfl, hO⟩ := own_of ho
  exact ⟨B, d, rfl, hO, hb⟩
section
variable {w : World} {g : Nat} {B : Option Addr} {c p : Nat} {e : Int} {l : List Int} {U : Nat → Prop} (hg : w.heap[g]? = some (.cells (rdCs B l.length c p e true) 66 (0, 0)))
  (hU : ∀ k, U k → k ≠ g) (hF : Kd.F (Kd.int .u8) w U B l.length l) (hc : l.length ≤ c) (hl : l.length ≤ 140737488351232) (hp : p ≤ l.length) (hb : Bytes l)
include hg hU hF hc hl hp hb
set_option maxRecDepth 100000 in
set_option maxHeartbeats 4000000 in
theorem byt5 (n : Nat) (he : e = 0) (hs : p + n ≤ l.length) : Calls Try.prog 32 #[.pointer (some ⟨g, 0, none⟩), .int .i64 n] w fun ex w' => (∃ A m, ex = .returned (.slice A n m) ∧ Own w' w.heap.size A m ((l.drop p).take n)) ∧ w'.heap[g]? = some (.cells (rdCs B l.length c ((p + n : Nat) : Int) 0 true) 66 (0, 0)) ∧ Fr (· = g) w w' := by
  subst he
  have G0 := Aside0.mk hg
  have HL := Aside0.mk hl
  have HP := Aside0.mk hp
  have FF := Aside0.mk hF
  have UU := Aside0.mk hU
  have BB := Aside0.mk hb
  have HS := Aside0.mk hs
  have hg1 : decide ((n : Int) < 0) = false := decide_eq_false (by omega)
  have HM := Aside0.mk (show (n : Int) ≤ ((l.length - p : Nat) : Int) by omega)
  clear hg hl hp hF hU hb
  clear hs
  go_enter Try.func32, Try.ntmps32
  go_wp2_with fail
  refine (none_c G0.out).mono ?_
  rintro ex w1 ⟨rfl, hb1⟩
  have F1 := Aside0.mk (Fr.of_below (F := (· = g)) hb1)
  have G1 := Aside0.mk ((hb1.block _ (blk_lt G0.out)).trans G0.out)
  clear hb1
  go_wp2_with fail
  refine (refuse_c G1.out false 1).mono ?_
  rintro ex w2 ⟨rfl, hG, hf⟩
  rw [if_neg (fun h => absurd h.1 (by decide))] at hG
  have F2 := Aside0.mk (F1.out.then_ hf)
  have G2 := Aside0.mk hG
  clear hG hf F1 G1
  go_wp2_with fail
  refine (can_c G2.out HL.out HP.out n).mono ?_
  rintro ex w3 ⟨rfl, hG, hf⟩
  rw [if_neg (fun h => Int.not_lt.2 HM.out h.2)] at hG
  rw [decide_eq_true ⟨rfl, Int.not_lt.2 HM.out⟩]
  have F3 := Aside0.mk (F2.out.then_ hf)
  have G3 := Aside0.mk hG
  clear hG hf F2 G2
  obtain ⟨z0, z1, z2, z3⟩ := rd_cells G3.out
  have y1 := blk_frozen G3.out 1
  have hwp : wrap64 ((p : Int) + (n : Int)) = ((p + n : Nat) : Int) := by have h1 := HL.out; have h2 := HS.out; rw [w64id (by omega) (by omega)]; rfl
  have G4 := Aside0.mk (show (w3.setCell ⟨g, 1, none⟩ (.int .i64 ((p + n : Nat) : Int))).heap[g]? = some (.cells (rdCs B l.length c ((p + n : Nat) : Int) 0 true) 66 (0, 0)) from by rw [blk_set G3.out 1 _]; simp)
  have F4 := Aside0.mk (Fr.set (F := (· = g)) (p := ⟨g, 1, none⟩) F3.out rfl (.int .i64 ((p + n : Nat) : Int)))
  clear G3 F3
  have LT := Aside0.mk (part_len HS.out)
  have FM := Aside0.mk (F_midP (c := c) (F_fr FF.out F4.out UU.out) (show p ≤ p + n by omega) HS.out hc)
  rw [LT.out.2, LT.out.1] at FM
  go_upto_region 7 with fail
  obtain ⟨s, hs⟩ : ∃ s, s = p + n := ⟨_, rfl⟩
  have hpn : (p : Int) + (n : Int) = (s : Int) := by rw [hs]; rfl
  rw [hpn]
  clear z0 z1 z2 z3 y1 hwp
  rw [← hs] at G4 F4 FM
  obtain ⟨wS, hwS⟩ : ∃ x, x = w3.setCell ⟨g, 1, none⟩ (.int .i64 (s : Int)) := ⟨_, rfl⟩
  rw [← hwS] at G4 F4 FM ⊢
  have SS := Aside0.mk hs
  have hw0 : wrap64 ((s : Int) - (n : Int)) = (p : Int) := by have h1 := HL.out; have h2 := HS.out; rw [w64id (by omega) (by omega)]; omega
  have hw1 : IntKind.i64.wrap ((s : Int) - (n : Int)) = (p : Int) := by rw [← hw0, i64_w]
  have hw2 : wrap64 (p : Int) = (p : Int) := by have h1 := HL.out; have h2 := HS.out; rw [w64id (by omega) (by omega)]
  have hw3 : IntKind.i64.wrap (p : Int) = (p : Int) := by rw [i64_w]; exact hw2
  have hcut := cutLH B l.length c p s (by omega) (by have := HS.out; omega)
  have hsp : s - p = n := by omega
  clear hcut
  have hb1 : p ≤ s := by omega
  have hb2 : s ≤ c := by have := HS.out; omega
  have hb3 : (0 : Int) ≤ (p : Int) := by omega
  have hb4 : (p : Int) ≤ (s : Int) := by omega
  have hb5 : (s : Int) ≤ (c : Int) := by omega
  clear hwS hpn hs
  have FD := Aside0.mk (F_fr (F := (· = g)) FM.out (Fr.of_below (below_drew (Below.refl _ _))) UU.out)
  have CN := Aside0.mk (show n ≤ c - p from by have := HS.out; omega)
  have G5 := Aside0.mk (show wS.drew.heap[g]? = _ from G4.out)
  have F5 := Aside0.mk (F4.out.then_ (Fr.of_below (F := (· = g)) (below_drew (Below.refl _ _))))
  obtain ⟨q, hq⟩ : ∃ q, q = (l.drop p).take n := ⟨_, rfl⟩
  rw [← hq] at FD
  have HQ := Aside0.mk hq
  obtain ⟨z0, z1, z2, z3⟩ := rd_cells G4.out
  have QL := Aside0.mk (show q.length = n from by rw [hq]; exact LT.out.1)
  have CD := Aside0.mk (show Kd.C (Kd.int .u8) wS.drew (cutP B c p) q.length q from by rw [QL.out]; exact Kd.F_now FD.out)
  clear hq FM F4 LT FD
  go_region_held3 (fun w' => w'.cell? ⟨g, 0, none⟩ = some (.slice B l.length c) ∧ w'.cell? ⟨g, 1, none⟩ = some (.int .i64 (s : Int)) ∧ w'.cell? ⟨g, 2, none⟩ = some (.int .i64 0) ∧ w'.cell? ⟨g, 3, none⟩ = some (.bool true)) (go_keep)
    (first
      | (go_at_call 13; refine (clone_o (n := n) CD.out QL.out CN.out (by have := HS.out; have := HL.out; omega)).mono ?_; rintro e wn ⟨A, m, rfl, hA, hbn⟩; have FN := Aside0.mk (F5.out.then_ (Fr.of_below hbn)); have GN := Aside0.mk ((hbn.block _ (blk_lt G5.out)).trans G5.out); have AA := Aside0.mk hA; have SZ := Aside0.mk F5.out.size; clear hbn hA z0 z1 z2 z3; obtain ⟨z0, z1, z2, z3⟩ := rd_cells GN.out))
  go_wp2_with fail
  go_ret
  rw [← HQ.out, ← SS.out]
  exact ⟨⟨A, m, rfl, own_lower AA.out SZ.out⟩, GN.out, FN.out⟩
end
theorem rs_all {w : World} {g : Nat} {U : Nat → Prop} {L : List Int} (h : RS w g U L 0) : Calls Try.prog 32 #[.pointer (some ⟨g, 0, none⟩), .int .i64 (L.length : Int)] w fun ex w' => (∃ A m, ex = .returned (.slice A L.length m) ∧ Own w' w.heap.size A m L) ∧ RS w' g U [] 0 ∧ Fr (· = g) w w' := by
  obtain ⟨ne, B, c, p, l, h1, h2, h3, h4, rfl, h5, h6⟩ := h
  have hn : (l.drop p).length = l.length - p := List.length_drop
  rw [hn]
  refine (byt5 h1 ne h2 h3 h6 h4 h5 (l.length - p) rfl (by omega)).mono ?_
  rintro ex w' ⟨⟨A, m, rfl, hO⟩, hG, hf⟩
  rw [List.take_of_length_le (by omega)] at hO
  exact ⟨⟨A, m, rfl, hO⟩, ⟨ne, B, c, p + (l.length - p), l, hG, F_fr h2 hf ne, h3, by omega, (List.drop_eq_nil_of_le (by omega)).symm, h5, h6⟩, hf⟩
/-- No reader: none at all, or one that no call made. -/
def NoneP (w : World) (v : Value) : Prop := v = .pointer none ∨ ∃ g, v = .pointer (some ⟨g, 0, none⟩) ∧ w.heap[g]? = some (.cells (rdCs none 0 0 0 0 false) 66 (0, 0))
theorem NoneP.below {w w' : World} {v : Value} (h : NoneP w v) (hb : Below w.heap.size w w') : NoneP w' v := by
  rcases h with h | ⟨g, h, hg⟩
  · exact .inl h
  · exact .inr ⟨g, h, (hb.block _ (blk_lt hg)).trans hg⟩
set_option maxRecDepth 100000 in
theorem none_n {w : World} {v : Value} (h : NoneP w v) : Calls Try.prog 41 #[v] w fun ex w' => ex = .returned (.bool true) ∧ Below w.heap.size w w' := by
  rcases h with rfl | ⟨g, rfl, hg⟩
  · have K0 := Aside0.mk (Below.refl w.heap.size w)
    go_enter Try.func41, Try.ntmps41
    go_wp2_with fail
    go_ret
    exact ⟨rfl, K0.out⟩
  · exact none_c hg
set_option maxRecDepth 100000 in
theorem non_num {w : World} {v : Value} (h : NoneP w v) (n : Int) : Calls Try.prog 30 #[v, .int .i64 n] w fun ex w' => ex = .returned (.int .u64 0) ∧ Below w.heap.size w w' := by
  have HN := Aside0.mk h
  clear h
  go_enter Try.func30, Try.ntmps30
  go_wp2_with fail
  refine (none_n HN.out).mono ?_
  rintro ex w1 ⟨rfl, hb1⟩
  have K1 := Aside0.mk hb1
  clear hb1
  go_wp2_with fail
  go_ret
  exact ⟨rfl, K1.out⟩
set_option maxRecDepth 100000 in
theorem non_byt {w : World} {v : Value} (h : NoneP w v) (n : Int) : Calls Try.prog 32 #[v, .int .i64 n] w fun ex w' => ex = .returned (.slice none 0 0) ∧ Below w.heap.size w w' := by
  have HN := Aside0.mk h
  clear h
  go_enter Try.func32, Try.ntmps32
  go_wp2_with fail
  refine (none_n HN.out).mono ?_
  rintro ex w1 ⟨rfl, hb1⟩
  have K1 := Aside0.mk hb1
  clear hb1
  go_wp2_with fail
  go_ret
  exact ⟨rfl, K1.out⟩
set_option maxRecDepth 100000 in
theorem non_uva {w : World} {v : Value} (h : NoneP w v) : Calls Try.prog 34 #[v] w fun ex w' => ex = .returned (.int .u64 0) ∧ Below w.heap.size w w' := by
  have HN := Aside0.mk h
  clear h
  go_enter Try.func34, Try.ntmps34
  go_wp2_with fail
  refine (none_n HN.out).mono ?_
  rintro ex w1 ⟨rfl, hb1⟩
  have K1 := Aside0.mk hb1
  clear hb1
  go_wp2_with fail
  go_ret
  exact ⟨rfl, K1.out⟩
set_option maxRecDepth 100000 in
theorem non_err {w : World} {v : Value} (h : NoneP w v) : Calls Try.prog 36 #[v] w fun ex w' => ex = .returned (.int .i64 2) ∧ Below w.heap.size w w' := by
  have HN := Aside0.mk h
  clear h
  go_enter Try.func36, Try.ntmps36
  go_wp2_with fail
  refine (none_n HN.out).mono ?_
  rintro ex w1 ⟨rfl, hb1⟩
  have K1 := Aside0.mk hb1
  clear hb1
  go_wp2_with fail
  go_ret
  exact ⟨rfl, K1.out⟩
set_option maxRecDepth 100000 in
theorem non_rest {w : World} {v : Value} (h : NoneP w v) : Calls Try.prog 37 #[v] w fun ex w' => ex = .returned (.int .i64 0) ∧ Below w.heap.size w w' := by
  have HN := Aside0.mk h
  clear h
  go_enter Try.func37, Try.ntmps37
  go_wp2_with fail
  refine (none_n HN.out).mono ?_
  rintro ex w1 ⟨rfl, hb1⟩
  have K1 := Aside0.mk hb1
  clear hb1
  go_wp2_with fail
  go_ret
  exact ⟨rfl, K1.out⟩
set_option maxRecDepth 100000 in
theorem non_end {w : World} {v : Value} (h : NoneP w v) : Calls Try.prog 38 #[v] w fun ex w' => ex = .returned (.int .i64 2) ∧ Below w.heap.size w w' := by
  have HN := Aside0.mk h
  clear h
  go_enter Try.func38, Try.ntmps38
  go_wp2_with fail
  refine (non_err HN.out).mono ?_
  rintro ex w1 ⟨rfl, hb1⟩
  have K1 := Aside0.mk hb1
  clear hb1
  go_wp2_with fail
  go_ret
  exact ⟨rfl, K1.out⟩
end Go.Proofs.Ytnhihiadmllnkaa.Pure
