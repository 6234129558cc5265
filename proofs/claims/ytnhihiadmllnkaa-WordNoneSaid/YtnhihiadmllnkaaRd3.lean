/- A reader by the document's answer: walked; and both readers' contracts in plain words. -/
import Derived.Test.YtnhihiadmllnkaaRd2
import Derived.OwnWalk
namespace Go.Proofs.Ytnhihiadmllnkaa.Pure
open Go.RowKit Go.Proofs.Ytnhihiadmllnkaa Go.Proofs.Ytnhihiadmllnkaa.PAll Go.Proofs.Ytnhihiadmllnkaa.Mem Go.Proofs.YtnhihiadmllnkaaW.PrintWords Go.Proofs.YtnhihiadmllnkaaW.PrintLast Go.Proofs.YtnhihiadmllnkaaW.PrintMore
set_option linter.unusedVariables false
set_option linter.unusedSimpArgs false
set_option linter.unusedSectionVars false
attribute [local go_sem high] cutLH cutL cutH

/-- append(nil, ys...): a new row. -/
theorem app_nil {ops : Array Oper} {rest : List Oper} {o : Oper} {a : Act} {Q : Exit → Act → World → Prop} {W : World} (hgd : o.guard = none) (s x : Operand)
    (ho : o.op = .call { callee := .builtin .append, args := #[s, x], argTypes := #[22, 22] }) (B : Option Addr) (n c : Nat) (ys : List Int) (hs : a.eval s = .slice none 0 0) (hx : a.eval x = .slice B n c)
    (hC : Kd.C (Kd.int .u8) W B ys.length ys) (hn : ys.length = n) (hl : n ≤ 140737488351232)
    (h : ∀ A d w1, n ≤ d → Kd.F (Kd.int .u8) w1 (fun k => W.heap.size ≤ k) A n ys → Below W.heap.size W w1 → wpList Try.prog ops Q rest (a.put o.dst (.slice A n d)) w1) : wpList Try.prog ops Q (o :: rest) a W := by
  subst hn
  refine Kd.R_append_rows (Kd.int .u8) (w0 := W) W.heap.size hgd s x 22 5 (.int .u8 0) 1 ho Try.underlying22 info5 rfl (by decide) (by omega) (.slice none 0 0) ([] : List Int) ys B ys.length c (fun _ => True) (fun _ => False) hs hx (Kd.R_nil _ _ _ _ _) hC (fun _ _ h => h) (fun _ h => h.elim) (fun _ _ => trivial) (Below.refl _ _) (Nat.le_refl _) (by simp; omega) ?_
  intro v1 w1 hR hb hg hat
  rw [List.nil_append] at hR
  obtain ⟨A, d, rfl, hd, hC1⟩ := Kd.R_reads hR
  exact h A d w1 hd (Kd.F_mono (Kd.R_F (Kd.R_bound hR)) (fun k hk => hk.2.1)) hb
theorem rget_c {w : World} {B : Option Addr} {c m : Nat} {n : Int} {l : List Int} (hC : Kd.C (Kd.int .u8) w B l.length l) (hm : l.length = m) (hc : m ≤ c) (hb : Bytes l) (hl : m ≤ 140737488351232) : Calls Try.prog 15 #[.slice B m c, .int .i64 0, .int .i64 n] w fun e w' => e = .returned (.tuple #[.int .u64 (getA l 0 n).1, .bool (getA l 0 n).2]) ∧ Below w.heap.size w w' := by
  subst hm
  refine (atticref01_Get.calls 10 B c l 0 n _ _ w hC hc (get_f 10 l 0 n hb (by omega) (by decide)).2).mono ?_
  rintro e w' ⟨rfl, hb⟩
  exact ⟨rfl, drawn_below hb⟩
theorem rtake_c {w : World} {A : Option Addr} {c n : Nat} {l : List Int} (hC : Kd.C (Kd.int .u8) w A l.length l) (hn : l.length = n) (hc : n ≤ c) (hl : n ≤ 140737488351232) (hb : Bytes l) :
    Calls Try.prog 20 #[.slice A n c] w fun e w' => e = .returned (.tuple #[.int .u64 ((tk 0 0 l).1 : Int), .int .i64 ((tk 0 0 l).2.1 : Int), .int .i64 ((tk 0 0 l).2.2 : Int)]) ∧ Below w.heap.size w w' := by
  subst hn
  obtain ⟨r, h1, h2⟩ := take_f l hb (by omega) 21 (by decide)
  have h3 := take_full l hb (by omega) 21 (by decide)
  rw [h1] at h3
  injection h3 with h3
  subst h3
  refine (atticref01_TakeUvar.calls 21 A c l _ _ _ w hC hc h2).mono ?_
  rintro e w' ⟨rfl, hb⟩
  exact ⟨rfl, drawn_below hb⟩
/-- The document's reader's cells. -/
abbrev rrCs (B : Option Addr) (n c : Nat) (e : Int) : Array Value := #[.slice B n c, .int .i64 e]
theorem rr_cells {w : World} {g : Nat} {B : Option Addr} {n c : Nat} {e : Int} {t : TypeId} (h : w.heap[g]? = some (.cells (rrCs B n c e) t (0, 0))) :
    w.cell? ⟨g, 0, none⟩ = some (.slice B n c) ∧ w.cell? ⟨g, 1, none⟩ = some (.int .i64 e) := by
  refine ⟨?_, ?_⟩ <;> (unfold World.cell?; simp only [h]; rfl)
section
variable {w : World} {g : Nat} {B : Option Addr} {c m : Nat} {e : Int} {l : List Int} {U : Nat → Prop} (hg : w.heap[g]? = some (.cells (rrCs B m c e) 60 (0, 0)))
  (hU : ∀ k, U k → k ≠ g) (hF : Kd.F (Kd.int .u8) w U B l.length l) (hm : l.length = m) (hc : m ≤ c) (hl : m ≤ 140737488351232) (hb : Bytes l)
include hg hU hF hm hc hl hb
set_option maxRecDepth 100000 in
set_option maxHeartbeats 4000000 in
theorem rnum1 (n : Int) (he : e ≠ 0) : Calls Try.prog 31 #[.pointer (some ⟨g, 0, none⟩), .int .i64 n] w fun ex w' => ex = .returned (.int .u64 0) ∧ w'.heap[g]? = some (.cells (rrCs B m c e) 60 (0, 0)) ∧ Fr (· = g) w w' := by
  have G0 := Aside0.mk hg
  have HL := Aside0.mk hl
  have HC := Aside0.mk hc
  have HM := Aside0.mk hm
  have FF := Aside0.mk hF
  have UU := Aside0.mk hU
  have BB := Aside0.mk hb
  have F0 := Aside0.mk (Fr.refl (· = g) w)
  clear hg hl hc hm hF hU hb
  have hb1 : (e == 0) = false := by simpa using he
  have hb2 : (e != 0) = true := by simpa using he
  clear he
  go_enter Try.func31, Try.ntmps31
  obtain ⟨z0, z1⟩ := rr_cells G0.out
  go_wp2_with fail
  go_ret
  exact ⟨rfl, G0.out, F0.out⟩
set_option maxRecDepth 100000 in
set_option maxHeartbeats 4000000 in
theorem rbyt1 (n : Int) (he : e ≠ 0) : Calls Try.prog 33 #[.pointer (some ⟨g, 0, none⟩), .int .i64 n] w fun ex w' => ex = .returned (.slice none 0 0) ∧ w'.heap[g]? = some (.cells (rrCs B m c e) 60 (0, 0)) ∧ Fr (· = g) w w' := by
  have G0 := Aside0.mk hg
  have HL := Aside0.mk hl
  have HC := Aside0.mk hc
  have HM := Aside0.mk hm
  have FF := Aside0.mk hF
  have UU := Aside0.mk hU
  have BB := Aside0.mk hb
  have F0 := Aside0.mk (Fr.refl (· = g) w)
  clear hg hl hc hm hF hU hb
  have hb1 : (e == 0) = false := by simpa using he
  have hb2 : (e != 0) = true := by simpa using he
  clear he
  go_enter Try.func33, Try.ntmps33
  obtain ⟨z0, z1⟩ := rr_cells G0.out
  go_wp2_with fail
  go_ret
  exact ⟨rfl, G0.out, F0.out⟩
set_option maxRecDepth 100000 in
set_option maxHeartbeats 4000000 in
theorem ruva1 (he : e ≠ 0) : Calls Try.prog 35 #[.pointer (some ⟨g, 0, none⟩)] w fun ex w' => ex = .returned (.int .u64 0) ∧ w'.heap[g]? = some (.cells (rrCs B m c e) 60 (0, 0)) ∧ Fr (· = g) w w' := by
  have G0 := Aside0.mk hg
  have HL := Aside0.mk hl
  have HC := Aside0.mk hc
  have HM := Aside0.mk hm
  have FF := Aside0.mk hF
  have UU := Aside0.mk hU
  have BB := Aside0.mk hb
  have F0 := Aside0.mk (Fr.refl (· = g) w)
  clear hg hl hc hm hF hU hb
  have hb1 : (e == 0) = false := by simpa using he
  have hb2 : (e != 0) = true := by simpa using he
  clear he
  go_enter Try.func35, Try.ntmps35
  obtain ⟨z0, z1⟩ := rr_cells G0.out
  go_wp2_with fail
  go_ret
  exact ⟨rfl, G0.out, F0.out⟩
set_option maxRecDepth 100000 in
set_option maxHeartbeats 4000000 in
theorem rnum2 (n : Int) (he : e = 0) (hn : n < 1 ∨ n > 8) : Calls Try.prog 31 #[.pointer (some ⟨g, 0, none⟩), .int .i64 n] w fun ex w' => ex = .returned (.int .u64 0) ∧ w'.heap[g]? = some (.cells (rrCs B m c 1) 60 (0, 0)) ∧ Fr (· = g) w w' := by
  subst he
  have G0 := Aside0.mk hg
  have HL := Aside0.mk hl
  have HC := Aside0.mk hc
  have HM := Aside0.mk hm
  have FF := Aside0.mk hF
  have UU := Aside0.mk hU
  have BB := Aside0.mk hb
  have F0 := Aside0.mk (Fr.refl (· = g) w)
  clear hg hl hc hm hF hU hb
  have y1 := blk_frozen G0.out 1
  rcases Int.lt_or_le n 1 with h1 | h1
  ·
    have hg1 : decide (n < 1) = true := decide_eq_true h1
    clear h1 hn
    go_enter Try.func31, Try.ntmps31
    obtain ⟨z0, z1⟩ := rr_cells G0.out
    go_wp2_with fail
    go_ret
    refine ⟨rfl, ?_, Fr.set (F := (· = g)) (p := ⟨g, 1, none⟩) F0.out rfl _⟩
    rw [blk_set G0.out 1 _]
    simp
  ·
    have h2 : n > 8 := by omega
    have hg1 : decide (n < 1) = false := decide_eq_false (by omega)
    have hg2 : decide (n > 8) = true := decide_eq_true h2
    have hg3 : decide (8 < n) = true := decide_eq_true h2
    clear h1 h2 hn
    go_enter Try.func31, Try.ntmps31
    obtain ⟨z0, z1⟩ := rr_cells G0.out
    go_wp2_with fail
    go_ret
    refine ⟨rfl, ?_, Fr.set (F := (· = g)) (p := ⟨g, 1, none⟩) F0.out rfl _⟩
    rw [blk_set G0.out 1 _]
    simp
set_option maxRecDepth 100000 in
set_option maxHeartbeats 4000000 in
theorem rbyt2 (n : Int) (he : e = 0) (hn : n < 0) : Calls Try.prog 33 #[.pointer (some ⟨g, 0, none⟩), .int .i64 n] w fun ex w' => ex = .returned (.slice none 0 0) ∧ w'.heap[g]? = some (.cells (rrCs B m c 1) 60 (0, 0)) ∧ Fr (· = g) w w' := by
  subst he
  have G0 := Aside0.mk hg
  have HL := Aside0.mk hl
  have HC := Aside0.mk hc
  have HM := Aside0.mk hm
  have FF := Aside0.mk hF
  have UU := Aside0.mk hU
  have BB := Aside0.mk hb
  have F0 := Aside0.mk (Fr.refl (· = g) w)
  clear hg hl hc hm hF hU hb
  have y1 := blk_frozen G0.out 1
  have hg1 : decide (n < 0) = true := decide_eq_true hn
  clear hn
  go_enter Try.func33, Try.ntmps33
  obtain ⟨z0, z1⟩ := rr_cells G0.out
  go_wp2_with fail
  go_ret
  refine ⟨rfl, ?_, Fr.set (F := (· = g)) (p := ⟨g, 1, none⟩) F0.out rfl _⟩
  rw [blk_set G0.out 1 _]
  simp
set_option maxRecDepth 100000 in
set_option maxHeartbeats 4000000 in
theorem rnum3 (n : Int) (he : e = 0) (hn : ¬ (n < 1 ∨ n > 8)) (hs : n > (m : Int)) : Calls Try.prog 31 #[.pointer (some ⟨g, 0, none⟩), .int .i64 n] w fun ex w' => ex = .returned (.int .u64 0) ∧ w'.heap[g]? = some (.cells (rrCs B m c 10) 60 (0, 0)) ∧ Fr (· = g) w w' := by
  subst he
  have HA := Aside0.mk (show getA l 0 n = (0, false) from by unfold getA; rw [if_pos]; omega)
  have G0 := Aside0.mk hg
  have HL := Aside0.mk hl
  have HC := Aside0.mk hc
  have HM := Aside0.mk hm
  have FF := Aside0.mk hF
  have UU := Aside0.mk hU
  have BB := Aside0.mk hb
  have F0 := Aside0.mk (Fr.refl (· = g) w)
  clear hg hl hc hm hF hU hb
  have hg1 : decide ((n : Int) < 1) = false := decide_eq_false (by omega)
  have hg2 : decide ((n : Int) > 8) = false := decide_eq_false (by omega)
  have hg3 : decide (8 < n) = false := decide_eq_false (by omega)
  clear hn hs
  go_enter Try.func31, Try.ntmps31
  obtain ⟨z0, z1⟩ := rr_cells G0.out
  go_wp2_with fail
  refine (rget_c (Kd.F_now FF.out) HM.out HC.out BB.out HL.out).mono ?_
  rw [HA.out]
  rintro ex w1 ⟨rfl, hb1⟩
  have F1 := Aside0.mk (Fr.of_below (F := (· = g)) hb1)
  have G1 := Aside0.mk ((hb1.block _ (blk_lt G0.out)).trans G0.out)
  have y1 := blk_frozen G1.out 1
  clear hb1 z0 z1
  obtain ⟨z0, z1⟩ := rr_cells G1.out
  go_wp2_with fail
  go_ret
  refine ⟨rfl, ?_, Fr.set (F := (· = g)) (p := ⟨g, 1, none⟩) F1.out rfl _⟩
  rw [blk_set G1.out 1 _]
  simp
set_option maxRecDepth 100000 in
set_option maxHeartbeats 4000000 in
theorem rnum4 (n : Nat) (he : e = 0) (hn : 1 ≤ n ∧ n ≤ 8) (hs : n ≤ m) : Calls Try.prog 31 #[.pointer (some ⟨g, 0, none⟩), .int .i64 n] w fun ex w' => ex = .returned (.int .u64 (getL l 0 n : Int)) ∧ w'.heap[g]? = some (.cells (rrCs (cutP B c n) (m - n) (c - n) 0) 60 (0, 0)) ∧ Fr (· = g) w w' := by
  subst he
  have HA := Aside0.mk (show getA l 0 n = ((getL l 0 n : Int), true) from by unfold getA; rw [if_neg (by omega)]; rfl)
  have G0 := Aside0.mk hg
  have HL := Aside0.mk hl
  have HC := Aside0.mk hc
  have HM := Aside0.mk hm
  have FF := Aside0.mk hF
  have UU := Aside0.mk hU
  have BB := Aside0.mk hb
  have F0 := Aside0.mk (Fr.refl (· = g) w)
  clear hg hl hc hm hF hU hb
  have hg1 : decide ((n : Int) < 1) = false := decide_eq_false (by omega)
  have hg2 : decide ((n : Int) > 8) = false := decide_eq_false (by omega)
  have hg3 : decide (8 < n) = false := decide_eq_false (by omega)
  have hg4 : decide (n < 1) = false := decide_eq_false (by omega)
  clear hn
  go_enter Try.func31, Try.ntmps31
  obtain ⟨z0, z1⟩ := rr_cells G0.out
  go_wp2_with fail
  refine (rget_c (Kd.F_now FF.out) HM.out HC.out BB.out HL.out).mono ?_
  rw [HA.out]
  rintro ex w1 ⟨rfl, hb1⟩
  have F1 := Aside0.mk (Fr.of_below (F := (· = g)) hb1)
  have G1 := Aside0.mk ((hb1.block _ (blk_lt G0.out)).trans G0.out)
  have y0 := blk_frozen G1.out 0
  clear hb1 z0 z1
  obtain ⟨z0, z1⟩ := rr_cells G1.out
  go_wp2_with fail
  go_ret
  refine ⟨rfl, ?_, Fr.set (F := (· = g)) (p := ⟨g, 0, none⟩) F1.out rfl _⟩
  rw [blk_set G1.out 0 _]
  simp
set_option maxRecDepth 100000 in
set_option maxHeartbeats 4000000 in
theorem rbyt3 (n : Int) (he : e = 0) (hn : ¬ n < 0) (hs : n > (m : Int)) : Calls Try.prog 33 #[.pointer (some ⟨g, 0, none⟩), .int .i64 n] w fun ex w' => ex = .returned (.slice none 0 0) ∧ w'.heap[g]? = some (.cells (rrCs B m c 10) 60 (0, 0)) ∧ Fr (· = g) w w' := by
  subst he
  have G0 := Aside0.mk hg
  have HL := Aside0.mk hl
  have HC := Aside0.mk hc
  have HM := Aside0.mk hm
  have FF := Aside0.mk hF
  have UU := Aside0.mk hU
  have BB := Aside0.mk hb
  have F0 := Aside0.mk (Fr.refl (· = g) w)
  clear hg hl hc hm hF hU hb
  have y1 := blk_frozen G0.out 1
  have hg1 : decide (n < 0) = false := decide_eq_false hn
  have hg2 : decide (n > (m : Int)) = true := decide_eq_true hs
  have hg3 : decide ((m : Int) < n) = true := decide_eq_true hs
  clear hn hs
  go_enter Try.func33, Try.ntmps33
  obtain ⟨z0, z1⟩ := rr_cells G0.out
  go_wp2_with fail
  go_ret
  refine ⟨rfl, ?_, Fr.set (F := (· = g)) (p := ⟨g, 1, none⟩) F0.out rfl _⟩
  rw [blk_set G0.out 1 _]
  simp
set_option maxRecDepth 100000 in
set_option maxHeartbeats 4000000 in
theorem rbyt4 (n : Nat) (he : e = 0) (hs : n ≤ m) : Calls Try.prog 33 #[.pointer (some ⟨g, 0, none⟩), .int .i64 n] w fun ex w' => (∃ A d, ex = .returned (.slice A n d) ∧ n ≤ d ∧ Kd.F (Kd.int .u8) w' (fun k => w.heap.size ≤ k) A n (l.take n)) ∧ w'.heap[g]? = some (.cells (rrCs (cutP B c n) (m - n) (c - n) 0) 60 (0, 0)) ∧ Fr (· = g) w w' := by
  subst he
  have G0 := Aside0.mk hg
  have HL := Aside0.mk hl
  have HC := Aside0.mk hc
  have HM := Aside0.mk hm
  have FF := Aside0.mk hF
  have UU := Aside0.mk hU
  have BB := Aside0.mk hb
  have F0 := Aside0.mk (Fr.refl (· = g) w)
  clear hg hl hc hm hF hU hb
  have hg1 : decide ((n : Int) < 0) = false := decide_eq_false (by omega)
  have hg2 : decide ((n : Int) > (m : Int)) = false := decide_eq_false (by omega)
  have hg3 : decide (m < n) = false := decide_eq_false (by omega)
  have hnc : n ≤ c := Nat.le_trans hs HC.out
  have HS := Aside0.mk hs
  have TL := Aside0.mk (show (l.take n).length = n from by rw [List.length_take, HM.out]; exact Nat.min_eq_left hs)
  have HT := Aside0.mk (show Kd.C (Kd.int .u8) w B (l.take n).length (l.take n) from Kd.C_take (Kd.F_now FF.out) (by rw [HM.out]; exact hs))
  obtain ⟨q, hq⟩ : ∃ q, q = l.take n := ⟨_, rfl⟩
  rw [← hq] at TL HT
  have HQ := Aside0.mk hq
  clear hq
  go_enter Try.func33, Try.ntmps33
  obtain ⟨z0, z1⟩ := rr_cells G0.out
  go_wp2_with (at_builtin; (refine app_nil rfl (.const (.slice none 0 0)) (.tmp 31) rfl B n c q rfl rfl HT.out TL.out (Nat.le_trans HS.out HL.out) ?_); intro A d w1 hd hA hb1; have F1 := Aside0.mk (Fr.of_below (F := (· = g)) hb1); have G1 := Aside0.mk ((hb1.block _ (blk_lt G0.out)).trans G0.out); have AA := Aside0.mk hA; have y0 := blk_frozen G1.out 0; clear hb1 hA z0 z1; obtain ⟨z0, z1⟩ := rr_cells G1.out)
  go_ret
  rw [← HQ.out]
  refine ⟨⟨A, d, rfl, hd, F_fr (F := (· = g)) AA.out (Fr.set (F := (· = g)) (p := ⟨g, 0, none⟩) (Fr.refl _ w1) rfl _) (fun k hk e => Nat.lt_irrefl _ (Nat.lt_of_lt_of_le (blk_lt G0.out) (e ▸ hk)))⟩, ?_, Fr.set (F := (· = g)) (p := ⟨g, 0, none⟩) F1.out rfl _⟩
  rw [blk_set G1.out 0 _]
  simp
set_option maxRecDepth 100000 in
set_option maxHeartbeats 4000000 in
theorem ruva2 (he : e = 0) (r n q : Nat) (ht : tk 0 0 l = (r, n, q)) (hq : q ≠ 0) : Calls Try.prog 35 #[.pointer (some ⟨g, 0, none⟩)] w fun ex w' => ex = .returned (.int .u64 0) ∧ w'.heap[g]? = some (.cells (rrCs B m c (q : Int)) 60 (0, 0)) ∧ Fr (· = g) w w' := by
  subst he
  have G0 := Aside0.mk hg
  have HL := Aside0.mk hl
  have HC := Aside0.mk hc
  have HM := Aside0.mk hm
  have FF := Aside0.mk hF
  have UU := Aside0.mk hU
  have BB := Aside0.mk hb
  have F0 := Aside0.mk (Fr.refl (· = g) w)
  clear hg hl hc hm hF hU hb
  have HT := Aside0.mk ht
  have hb1 : ((q : Int) != 0) = true := by simpa using hq
  have hb2 : (q != 0) = true := by simpa using hq
  have hb3 : (q == 0) = false := by simpa using hq
  have hb4 : ((q : Int) == 0) = false := by simpa using hq
  clear ht hq
  go_enter Try.func35, Try.ntmps35
  obtain ⟨z0, z1⟩ := rr_cells G0.out
  go_wp2_with fail
  refine (rtake_c (Kd.F_now FF.out) HM.out HC.out HL.out BB.out).mono ?_
  rw [HT.out]
  rintro ex w1 ⟨rfl, hbx⟩
  have F1 := Aside0.mk (Fr.of_below (F := (· = g)) hbx)
  have G1 := Aside0.mk ((hbx.block _ (blk_lt G0.out)).trans G0.out)
  have y1 := blk_frozen G1.out 1
  clear hbx z0 z1
  obtain ⟨z0, z1⟩ := rr_cells G1.out
  go_wp2_with fail
  go_ret
  refine ⟨rfl, ?_, Fr.set (F := (· = g)) (p := ⟨g, 1, none⟩) F1.out rfl _⟩
  rw [blk_set G1.out 1 _]
  simp
set_option maxRecDepth 100000 in
set_option maxHeartbeats 4000000 in
theorem ruva3 (he : e = 0) (r n : Nat) (ht : tk 0 0 l = (r, n, 0)) : Calls Try.prog 35 #[.pointer (some ⟨g, 0, none⟩)] w fun ex w' => ex = .returned (.int .u64 (r : Int)) ∧ w'.heap[g]? = some (.cells (rrCs (cutP B c n) (m - n) (c - n) 0) 60 (0, 0)) ∧ Fr (· = g) w w' := by
  subst he
  have G0 := Aside0.mk hg
  have HL := Aside0.mk hl
  have HC := Aside0.mk hc
  have HM := Aside0.mk hm
  have FF := Aside0.mk hF
  have UU := Aside0.mk hU
  have BB := Aside0.mk hb
  have F0 := Aside0.mk (Fr.refl (· = g) w)
  clear hg hl hc hm hF hU hb
  have HT := Aside0.mk ht
  have hs : n ≤ m := by have := tk_len l; rw [ht, HM.out] at this; exact this
  clear ht
  go_enter Try.func35, Try.ntmps35
  obtain ⟨z0, z1⟩ := rr_cells G0.out
  go_wp2_with fail
  refine (rtake_c (Kd.F_now FF.out) HM.out HC.out HL.out BB.out).mono ?_
  rw [HT.out]
  rintro ex w1 ⟨rfl, hb1⟩
  have F1 := Aside0.mk (Fr.of_below (F := (· = g)) hb1)
  have G1 := Aside0.mk ((hb1.block _ (blk_lt G0.out)).trans G0.out)
  have y0 := blk_frozen G1.out 0
  clear hb1 z0 z1
  obtain ⟨z0, z1⟩ := rr_cells G1.out
  go_wp2_with fail
  go_ret
  refine ⟨rfl, ?_, Fr.set (F := (· = g)) (p := ⟨g, 0, none⟩) F1.out rfl _⟩
  rw [blk_set G1.out 0 _]
  simp
set_option maxRecDepth 100000 in
theorem rend_b : Calls Try.prog 39 #[.pointer (some ⟨g, 0, none⟩)] w fun ex w' => ex = .returned (.int .i64 (if e ≠ 0 then e else if m > 0 then 12 else 0)) ∧ Below w.heap.size w w' := by
  have G0 := Aside0.mk hg
  have HL := Aside0.mk hl
  have HC := Aside0.mk hc
  have HM := Aside0.mk hm
  have FF := Aside0.mk hF
  have UU := Aside0.mk hU
  have BB := Aside0.mk hb
  have F0 := Aside0.mk (Fr.refl (· = g) w)
  clear hg hl hc hm hF hU hb
  have K0 := Aside0.mk (Below.refl w.heap.size w)
  obtain ⟨z0, z1⟩ := rr_cells G0.out
  by_cases he : e = 0
  · subst he
    rw [if_neg (by simp)]
    by_cases h0 : m > 0
    · have hgd : decide ((m : Int) > 0) = true := decide_eq_true (by omega)
      have hgd2 : decide (0 < m) = true := decide_eq_true h0
      have hgd3 : decide ((0 : Int) < (m : Int)) = true := decide_eq_true (by omega)
      rw [if_pos h0]
      clear h0
      go_enter Try.func39, Try.ntmps39
      go_wp2_with fail
      go_ret
      exact ⟨rfl, K0.out⟩
    · have hgd : decide ((m : Int) > 0) = false := decide_eq_false (by omega)
      have hgd2 : decide (0 < m) = false := decide_eq_false h0
      have hgd3 : decide ((0 : Int) < (m : Int)) = false := decide_eq_false (by omega)
      rw [if_neg h0]
      clear h0
      go_enter Try.func39, Try.ntmps39
      go_wp2_with fail
      go_ret
      exact ⟨rfl, K0.out⟩
  · have hb1 : (e == 0) = false := by simpa using he
    have hb2 : (e != 0) = true := by simpa using he
    rw [if_pos he]
    clear he
    go_enter Try.func39, Try.ntmps39
    go_wp2_with fail
    go_ret
    exact ⟨rfl, K0.out⟩
end
end Go.Proofs.Ytnhihiadmllnkaa.Pure
