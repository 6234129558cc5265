/- More of a reader's operations by the code, and their contracts in plain words: walked. -/
import Derived.Test.YtnhihiadmllnkaaRd1
namespace Go.Proofs.Ytnhihiadmllnkaa.Pure
open Go.RowKit Go.Proofs.Ytnhihiadmllnkaa Go.Proofs.Ytnhihiadmllnkaa.PAll Go.Proofs.Ytnhihiadmllnkaa.Mem Go.Proofs.YtnhihiadmllnkaaW.PrintWords Go.Proofs.YtnhihiadmllnkaaW.PrintLast Go.Proofs.YtnhihiadmllnkaaW.PrintMore
set_option linter.unusedVariables false
set_option linter.unusedSimpArgs false
set_option linter.unusedSectionVars false
attribute [local go_sem high] cutLH cutL cutH

theorem take_c {w : World} {A : Option Addr} {c n : Nat} {l : List Int} (hC : Kd.C (Kd.int .u8) w A l.length l) (hn : l.length = n) (hc : n ≤ c) (hl : n ≤ 140737488351232) (hb : Bytes l) :
    Calls Try.prog 19 #[.slice A n c] w fun e w' => e = .returned (.tuple #[.int .u64 ((tk 0 0 l).1 : Int), .int .i64 ((tk 0 0 l).2.1 : Int), .int .i64 ((tk 0 0 l).2.2 : Int)]) ∧ Below w.heap.size w w' := by
  subst hn
  exact word_TakeUvar.calls 21 A c l _ _ _ w hC hc (take_full l hb (by omega) 21 (by decide))
section
variable {w : World} {g : Nat} {B : Option Addr} {c p : Nat} {e : Int} {l : List Int} {U : Nat → Prop} (hg : w.heap[g]? = some (.cells (rdCs B l.length c p e true) 66 (0, 0)))
  (hU : ∀ k, U k → k ≠ g) (hF : Kd.F (Kd.int .u8) w U B l.length l) (hc : l.length ≤ c) (hl : l.length ≤ 140737488351232) (hp : p ≤ l.length) (hb : Bytes l)
include hg hU hF hc hl hp hb
set_option maxRecDepth 100000 in
theorem err_b : Calls Try.prog 36 #[.pointer (some ⟨g, 0, none⟩)] w fun ex w' => ex = .returned (.int .i64 e) ∧ Below w.heap.size w w' := by
  have G0 := Aside0.mk hg
  clear hg hU hF hc hl hp hb
  go_enter Try.func36, Try.ntmps36
  go_wp2_with fail
  refine (none_c G0.out).mono ?_
  rintro ex w1 ⟨rfl, hb1⟩
  have K1 := Aside0.mk hb1
  have G1 := Aside0.mk ((hb1.block _ (blk_lt G0.out)).trans G0.out)
  clear hb1
  obtain ⟨z0, z1, z2, z3⟩ := rd_cells G1.out
  go_wp2_with fail
  go_ret
  exact ⟨rfl, K1.out⟩
set_option maxRecDepth 100000 in
theorem rest_b : Calls Try.prog 37 #[.pointer (some ⟨g, 0, none⟩)] w fun ex w' => ex = .returned (.int .i64 ((l.length - p : Nat) : Int)) ∧ Below w.heap.size w w' := by
  have G0 := Aside0.mk hg
  have hw : wrap64 ((l.length : Int) - (p : Int)) = ((l.length - p : Nat) : Int) := by rw [w64id (by omega) (by omega)]; omega
  have hw2 : IntKind.i64.wrap ((l.length : Int) - (p : Int)) = ((l.length - p : Nat) : Int) := by rw [← hw, i64_w]
  obtain ⟨m, hm⟩ : ∃ m, m = l.length - p := ⟨_, rfl⟩
  rw [← hm] at hw hw2 ⊢
  clear hg hU hF hc hl hp hb hm
  go_enter Try.func37, Try.ntmps37
  go_wp2_with fail
  refine (none_c G0.out).mono ?_
  rintro ex w1 ⟨rfl, hb1⟩
  have K1 := Aside0.mk hb1
  have G1 := Aside0.mk ((hb1.block _ (blk_lt G0.out)).trans G0.out)
  clear hb1
  obtain ⟨z0, z1, z2, z3⟩ := rd_cells G1.out
  go_wp2_with fail
  go_quiet (fail)
  go_wp2_with fail
  go_ret
  exact ⟨rfl, K1.out.trans ((drawn_below (w := w1) (w' := w1.drewN nq) ⟨⟨nq, rfl⟩⟩).mono K1.out.size)⟩
set_option maxRecDepth 100000 in
theorem end_b : Calls Try.prog 38 #[.pointer (some ⟨g, 0, none⟩)] w fun ex w' => ex = .returned (.int .i64 (if e ≠ 0 then e else if l.length - p > 0 then 12 else 0)) ∧ Below w.heap.size w w' := by
  have G0 := Aside0.mk hg
  have FF := Aside0.mk hF
  have HC := Aside0.mk hc
  have HL := Aside0.mk hl
  have HP := Aside0.mk hp
  have HB := Aside0.mk hb
  have UU := Aside0.mk hU
  clear hg hF hc hl hp hb hU
  by_cases he : e = 0
  · subst he
    rw [if_neg (by simp)]
    obtain ⟨m, hm⟩ : ∃ m, m = l.length - p := ⟨_, rfl⟩
    have HM := Aside0.mk hm
    rw [← hm]
    by_cases h0 : m > 0
    · have hgd : decide ((m : Int) > 0) = true := decide_eq_true (by omega)
      have hgd2 : decide (0 < m) = true := decide_eq_true h0
      have hgd3 : decide ((0 : Int) < (m : Int)) = true := decide_eq_true (by omega)
      rw [if_pos h0]
      clear h0 hm
      go_enter Try.func38, Try.ntmps38
      go_wp2_with fail
      refine (err_b G0.out UU.out FF.out HC.out HL.out HP.out HB.out).mono ?_
      rintro ex w1 ⟨rfl, hb1⟩
      have K1 := Aside0.mk hb1
      have G1 := Aside0.mk ((hb1.block _ (blk_lt G0.out)).trans G0.out)
      have F1 := Aside0.mk (Kd.F_below FF.out hb1)
      clear hb1
      go_wp2_with fail
      refine (rest_b G1.out UU.out F1.out HC.out HL.out HP.out HB.out).mono ?_
      rintro ex w2 ⟨rfl, hb1⟩
      rw [← HM.out]
      have K2 := Aside0.mk (K1.out.trans (hb1.mono K1.out.size))
      clear hb1
      go_wp2_with fail
      go_ret
      exact ⟨rfl, K2.out⟩
    · have hgd : decide ((m : Int) > 0) = false := decide_eq_false (by omega)
      have hgd2 : decide (0 < m) = false := decide_eq_false h0
      have hgd3 : decide ((0 : Int) < (m : Int)) = false := decide_eq_false (by omega)
      rw [if_neg h0]
      clear h0 hm
      go_enter Try.func38, Try.ntmps38
      go_wp2_with fail
      refine (err_b G0.out UU.out FF.out HC.out HL.out HP.out HB.out).mono ?_
      rintro ex w1 ⟨rfl, hb1⟩
      have K1 := Aside0.mk hb1
      have G1 := Aside0.mk ((hb1.block _ (blk_lt G0.out)).trans G0.out)
      have F1 := Aside0.mk (Kd.F_below FF.out hb1)
      clear hb1
      go_wp2_with fail
      refine (rest_b G1.out UU.out F1.out HC.out HL.out HP.out HB.out).mono ?_
      rintro ex w2 ⟨rfl, hb1⟩
      rw [← HM.out]
      have K2 := Aside0.mk (K1.out.trans (hb1.mono K1.out.size))
      clear hb1
      go_wp2_with fail
      go_ret
      exact ⟨rfl, K2.out⟩
  · have hb1 : (e == 0) = false := by simpa using he
    have hb2 : (e != 0) = true := by simpa using he
    rw [if_pos he]
    clear he
    go_enter Try.func38, Try.ntmps38
    go_wp2_with fail
    refine (err_b G0.out UU.out FF.out HC.out HL.out HP.out HB.out).mono ?_
    rintro ex w1 ⟨rfl, hb1⟩
    have K1 := Aside0.mk hb1
    clear hb1
    go_wp2_with fail
    go_ret
    exact ⟨rfl, K1.out⟩
set_option maxRecDepth 100000 in
theorem uva1 (he : e ≠ 0) : Calls Try.prog 34 #[.pointer (some ⟨g, 0, none⟩)] w fun ex w' => ex = .returned (.int .u64 0) ∧ w'.heap[g]? = some (.cells (rdCs B l.length c p e true) 66 (0, 0)) ∧ Fr (· = g) w w' := by
  have G0 := Aside0.mk hg
  have HL := Aside0.mk hl
  have HP := Aside0.mk hp
  have FF := Aside0.mk hF
  have UU := Aside0.mk hU
  have BB := Aside0.mk hb
  clear hg hl hp hF hU hb
  have hb1 : (e == 0) = false := by simpa using he
  have hb2 : (e != 0) = true := by simpa using he
  clear he
  go_enter Try.func34, Try.ntmps34
  go_wp2_with fail
  refine (none_c G0.out).mono ?_
  rintro ex w1 ⟨rfl, hb1⟩
  have F1 := Aside0.mk (Fr.of_below (F := (· = g)) hb1)
  have G1 := Aside0.mk ((hb1.block _ (blk_lt G0.out)).trans G0.out)
  clear hb1
  obtain ⟨z0, z1, z2, z3⟩ := rd_cells G1.out
  go_wp2_with fail
  go_ret
  exact ⟨rfl, G1.out, F1.out⟩
set_option maxRecDepth 100000 in
set_option maxHeartbeats 4000000 in
theorem uva2 (he : e = 0) (r n m : Nat) (ht : tk 0 0 (l.drop p) = (r, n, m)) : Calls Try.prog 34 #[.pointer (some ⟨g, 0, none⟩)] w fun ex w' => ex = .returned (.int .u64 (r : Int)) ∧ w'.heap[g]? = some (.cells (rdCs B l.length c ((p + n : Nat) : Int) (m : Int) true) 66 (0, 0)) ∧ Fr (· = g) w w' := by
  subst he
  have G0 := Aside0.mk hg
  have HL := Aside0.mk hl
  have HP := Aside0.mk hp
  have FF := Aside0.mk hF
  have UU := Aside0.mk hU
  have BB := Aside0.mk hb
  clear hg hl hp hF hU hb
  have HT := Aside0.mk ht
  have HN := Aside0.mk (show n ≤ l.length - p from by have := tk_len (l.drop p); rw [ht, List.length_drop] at this; exact this)
  clear ht
  go_enter Try.func34, Try.ntmps34
  go_wp2_with fail
  refine (none_c G0.out).mono ?_
  rintro ex w1 ⟨rfl, hb1⟩
  have F1 := Aside0.mk (Fr.of_below (F := (· = g)) hb1)
  have G1 := Aside0.mk ((hb1.block _ (blk_lt G0.out)).trans G0.out)
  clear hb1
  obtain ⟨z0, z1, z2, z3⟩ := rd_cells G1.out
  have F4 := Aside0.mk (F1.out.then_ (Fr.of_below (below_drew (Below.refl w1.heap.size w1))))
  have G4 := Aside0.mk (show w1.drew.heap[g]? = _ from G1.out)
  have hb1 : p ≤ l.length := HP.out
  obtain ⟨q, hq⟩ : ∃ q, q = l.drop p := ⟨_, rfl⟩
  obtain ⟨d, hd⟩ : ∃ d, d = l.length - p := ⟨_, rfl⟩
  have QL := Aside0.mk (show q.length = d from by rw [hq, List.length_drop, hd])
  have CD := Aside0.mk (show Kd.C (Kd.int .u8) w1.drew (cutP B c p) q.length q from by rw [hq]; exact Kd.F_now (F_cutP (c := c) (F_fr FF.out F4.out UU.out) HP.out hc))
  have QB := Aside0.mk (show Bytes q from by rw [hq]; exact fun x hx => BB.out x (List.mem_of_mem_drop hx))
  have HD := Aside0.mk (show d ≤ c - p ∧ d ≤ 140737488351232 from by have := HL.out; omega)
  rw [← hq] at HT
  have hd2 := hd.symm
  clear hq hd
  go_wp2_with fail
  go_region_held3 (fun w' => w'.cell? ⟨g, 0, none⟩ = some (.slice B l.length c) ∧ w'.cell? ⟨g, 1, none⟩ = some (.int .i64 (p : Int)) ∧ w'.cell? ⟨g, 2, none⟩ = some (.int .i64 0) ∧ w'.cell? ⟨g, 3, none⟩ = some (.bool true)) (go_keep)
    (first
      | (go_at_call 19; refine (take_c (n := d) CD.out QL.out HD.out.1 HD.out.2 QB.out).mono ?_; rw [HT.out]; rintro e wn ⟨rfl, hbn⟩; have FN := Aside0.mk (F4.out.then_ (Fr.of_below hbn)); have GN := Aside0.mk ((hbn.block _ (blk_lt G4.out)).trans G4.out); clear hbn z0 z1 z2 z3; obtain ⟨z0, z1, z2, z3⟩ := rd_cells GN.out))
  clear hb1 hd2
  have hwp : wrap64 ((p : Int) + (n : Int)) = ((p + n : Nat) : Int) := by have h1 := HL.out; have h2 := HN.out; have := HP.out; rw [w64id (by omega) (by omega)]; rfl
  have y1 := blk_frozen GN.out 1
  have y2 := blk_frozen GN.out 2
  go_wp2_with fail
  go_ret
  refine ⟨rfl, ?_, Fr.set (F := (· = g)) (p := ⟨g, 1, none⟩) (Fr.set (F := (· = g)) (p := ⟨g, 2, none⟩) FN.out rfl _) rfl _⟩
  rw [blk_set (blk_set GN.out 2 _) 1 _]
  simp
end
end Go.Proofs.Ytnhihiadmllnkaa.Pure
