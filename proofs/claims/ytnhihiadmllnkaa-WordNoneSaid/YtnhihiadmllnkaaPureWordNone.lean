/- A reader that no call made; what is handed in, and what is told, are nobody's else: walked. -/
import Derived.Test.YtnhihiadmllnkaaNoneA
import Derived.Test.YtnhihiadmllnkaaPAllx2
import Derived.Lib.Bytes
namespace Go.Proofs.Ytnhihiadmllnkaa.Pure
open Go.RowKit Go.Proofs.Ytnhihiadmllnkaa Go.Proofs.Ytnhihiadmllnkaa.PAll Go.Proofs.Ytnhihiadmllnkaa.Mem Go.Proofs.YtnhihiadmllnkaaW.PrintWords Go.Proofs.YtnhihiadmllnkaaW.PrintLast Go.Proofs.YtnhihiadmllnkaaW.PrintMore
set_option linter.unusedVariables false
set_option linter.unusedSimpArgs false

theorem live_c (w : World) : Calls Try.prog 11 #[] w fun e w' => e = .returned (.bool true) ∧ Below w.heap.size w w' := atticlaw01_live.calls true w (by unfold atticlaw01_live.f; rfl)
theorem equal_o {w : World} {A B : Option Addr} {c d b1 b2 : Nat} {l : List Int} (hC : Own w b1 A c l) (hD : Own w b2 B d l) :
    Calls Try.prog 16 #[.slice A l.length c, .slice B l.length d] w fun e w' => e = .returned (.bool true) ∧ Below w.heap.size w w' := by
  refine (bytes_Equal.calls A c l B d l true w hC.C hC.cap hD.C hD.cap (equal_self l)).mono ?_
  rintro e w' ⟨rfl, hb⟩
  exact ⟨rfl, drawn_below hb⟩
theorem st_n {k q n : Nat} (h : k + q = n) (hl : k < n) : k + 1 + (q - 1) = n ∧ q - 1 < q := by omega
theorem en_k {k q n : Nat} (h : k + q = n) (hl : ¬ k < n) : k = n := by omega
theorem di_t {k n : Nat} (h : k < n) : decide ((k : Int) < (n : Int)) = true ∧ decide (k < n) = true := ⟨decide_eq_true (by omega), decide_eq_true h⟩
theorem stepv {k n : Nat} (h : k < n) (hn : n ≤ 140737488351232) : Value.int .i64 (wrap64 ((k : Int) + 1)) = .int .i64 ((k + 1 : Nat) : Int) := by
  rw [show wrap64 ((k : Int) + 1) = ((k + 1 : Nat) : Int) by unfold wrap64; omega]
theorem own_ne {w w1 : World} {base lo hi x c : Nat} {A : Option Addr} {l : List Int} (h : Own w base A c l) (hl : ∀ g, 0 < l.length → A = some ⟨g, 0, none⟩ → lo ≤ g ∧ g < hi) (hf : Fr (· = x) w w1) (hx : x < lo ∨ hi ≤ x) : Own w1 base A c l :=
  own_fr h hf (fun g a b e => by have := hl g a b; omega)
theorem nums7 {w0 wz w3 w4 w5 w6 w7 g : Nat} (h0 : w0 ≤ wz ∧ wz ≤ w3) (h4 : w3 ≤ w4) (hg : w4 ≤ g ∧ g < w5) (h6 : w5 ≤ w6) (h7 : w6 ≤ w7) : w3 ≤ g ∧ w4 ≤ g ∧ g < w5 ∧ w0 ≤ g := by omega
theorem nums8 {w0 wz w3 w4 w5 w6 g x : Nat} (_ : w3 ≤ g ∧ w4 ≤ g ∧ g < w5 ∧ w0 ≤ g) (hx : w6 ≤ x) (hg : w4 ≤ g ∧ g < w5) (h6 : w5 ≤ w6) (h4 : w3 ≤ w4) (h0 : w0 ≤ wz ∧ wz ≤ w3) : w3 ≤ x ∧ w4 ≤ x ∧ g < x ∧ w0 ≤ x := by omega
theorem numsY {gY n base lo w3 w6 w7 wx : Nat} {A : Option Addr} (h : (n = 0 ∧ gY = wx) ∨ (0 < n ∧ A = some ⟨gY, 0, none⟩ ∧ gY < base)) (hl : ∀ g, 0 < n → A = some ⟨g, 0, none⟩ → lo ≤ g ∧ g < w3) (h7 : w6 ≤ w7) (h8 : w7 ≤ wx) : gY < w3 ∨ w7 ≤ gY := by
  rcases h with ⟨_, h⟩ | ⟨h1, h2, _⟩
  · exact .inr (by omega)
  · exact .inl (hl gY h1 h2).2
theorem nums9 {w3 w4 w5 w6 w7 g y : Nat} (h : y < w3 ∨ w7 ≤ y) (hg : w4 ≤ g ∧ g < w5) (h6 : w5 ≤ w6) (h4 : w3 ≤ w4) (h7 : w6 ≤ w7) : (y < w3 ∨ w4 ≤ y) ∧ (y < w5 ∨ w6 ≤ y) ∧ y ≠ g ∧ ∀ k, w4 ≤ k → k < g → k ≠ y := by
  refine ⟨by omega, by omega, by omega, fun k h1 h2 => by omega⟩
theorem pick_at {n gX base k wx : Nat} {A : Option Addr} (h : (n = 0 ∧ gX = wx) ∨ (0 < n ∧ A = some ⟨gX, 0, none⟩ ∧ gX < base)) (hk : k < n) : A = some ⟨gX, 0, none⟩ := by
  rcases h with ⟨h, _⟩ | ⟨_, h, _⟩
  · omega
  · exact h
theorem two_new (w : World) (o1 o2 : Obj) : ((w.alloc o1).alloc o2).heap[w.heap.size]? = some o1 ∧ ((w.alloc o1).alloc o2).heap[w.heap.size + 1]? = some o2 := by
  refine ⟨?_, ?_⟩
  · rw [Below.heap_alloc _ _ _ (by simp)]
    exact heap_new w o1
  · have q := heap_new (w.alloc o1) o2
    rw [show (w.alloc o1).heap.size = w.heap.size + 1 by simp] at q
    exact q
theorem two_at {w : World} {gs gz : Nat} {t : TypeId} (hs : w.heap[gs]? = some (.cells #[.pointer none, .pointer (some ⟨gz, 0, none⟩)] t (0, 0))) (hz : w.heap[gz]? = some (.cells (rdCs none 0 0 0 0 false) 66 (0, 0))) {k : Nat} (hk : k < 2) : ∃ v, w.cell? ⟨gs, k, none⟩ = some v ∧ NoneP w v := by
  have hc : k = 0 ∨ k = 1 := by omega
  rcases hc with rfl | rfl
  · exact ⟨.pointer none, by rw [blk_cell hs]; rfl, .inl rfl⟩
  · exact ⟨.pointer (some ⟨gz, 0, none⟩), by rw [blk_cell hs]; rfl, .inr ⟨gz, rfl, hz⟩⟩
set_option maxRecDepth 100000 in
set_option maxHeartbeats 16000000 in
theorem none_walk (w : World) (A : Option Addr) (c : Nat) (l : List Int) (hC : Kd.C (Kd.int .u8) w A l.length l) (hc : l.length ≤ c) (hl : l.length ≤ 140737488351232) (hb : Bytes l) (n : Int) :
    Calls Try.prog 10 #[.slice A l.length c, .int .i64 n] w fun e w' => e = .returned (.bool true) ∧ Below w.heap.size w w' := by
  have CC := Aside0.mk hC
  have HC := Aside0.mk hc
  have HL := Aside0.mk hl
  have HB := Aside0.mk hb
  clear hC hc hl hb
  go_enter Try.func10, Try.ntmps10
  go_wp2_with fail
  refine (live_c _).mono ?_
  rintro e w1 ⟨rfl, hb1⟩
  have K1 := Aside0.mk hb1
  clear hb1
  go_wp2_with fail
  have hbn := ((Below.refl w1.heap.size w1).alloc (Nat.le_refl _) (.cells (rdCs none 0 0 0 0 false) 66)).alloc (by simp) (.cells #[.pointer none, .pointer (some ⟨w1.heap.size, 0, none⟩)] 49)
  have K2 := Aside0.mk (K1.out.trans (hbn.mono K1.out.size))
  have Z2 := Aside0.mk (two_new w1 (.cells (rdCs none 0 0 0 0 false) 66) (.cells #[.pointer none, .pointer (some ⟨w1.heap.size, 0, none⟩)] 49))
  obtain ⟨w2, hw2⟩ : ∃ x, x = (w1.alloc (.cells (rdCs none 0 0 0 0 false) 66)).alloc (.cells #[.pointer none, .pointer (some ⟨w1.heap.size, 0, none⟩)] 49) := ⟨_, rfl⟩
  rw [← hw2] at K2 Z2 ⊢
  obtain ⟨gs, hgs⟩ : ∃ x, x = w1.heap.size + 1 := ⟨_, rfl⟩
  rw [← hgs] at Z2 ⊢
  obtain ⟨gz, hgz⟩ : ∃ x, x = w1.heap.size := ⟨_, rfl⟩
  rw [← hgz] at Z2 ⊢
  clear hbn hw2 hgs hgz K1
  go_loopg [22] 2 (fun q v22 w' => ∃ (k : Nat), v22 = .int .i64 (k : Int) ∧ Aside0 (k + q = 2) ∧ Aside0 (w'.heap[gz]? = some (.cells (rdCs none 0 0 0 0 false) 66 (0, 0))) ∧ Aside0 (w'.heap[gs]? = some (.cells #[.pointer none, .pointer (some ⟨gz, 0, none⟩)] 49 (0, 0))) ∧ Aside0 (Below w.heap.size w w'))
  case atStart => exact ⟨0, rfl, ⟨rfl⟩, ⟨Z2.out.1⟩, ⟨Z2.out.2⟩, K2⟩
  case round =>
    clear Z2 K2
    obtain ⟨k, rfl, HJ, ZZ, SB, KK⟩ := hrel
    by_cases hlt : k < 2
    case pos =>
      have hgd : decide ((k : Int) < 2) = true := (di_t hlt).1
      have hgd2 : decide (k < 2) = true := (di_t hlt).2
      have HN := Aside0.mk (st_n HJ.out hlt).1
      have HM := Aside0.mk (st_n HJ.out hlt).2
      have HV := Aside0.mk (stepv hlt (by decide))
      obtain ⟨v, hv, hnv⟩ := two_at SB.out ZZ.out hlt
      have NV := Aside0.mk hnv
      clear hnv HJ
      go_upto_region 6 with fail
      clear hv hlt
      go_wp2_with fail
      refine (non_num NV.out n).mono ?_
      rintro e wn ⟨rfl, hb⟩
      replace NV := Aside0.mk (NV.out.below hb)
      replace ZZ := Aside0.mk ((hb.block _ (blk_lt ZZ.out)).trans ZZ.out)
      replace SB := Aside0.mk ((hb.block _ (blk_lt SB.out)).trans SB.out)
      replace KK := Aside0.mk (KK.out.trans (hb.mono KK.out.size))
      clear hb
      go_wp2_with fail
      refine (non_byt NV.out n).mono ?_
      rintro e wn ⟨rfl, hb⟩
      replace NV := Aside0.mk (NV.out.below hb)
      replace ZZ := Aside0.mk ((hb.block _ (blk_lt ZZ.out)).trans ZZ.out)
      replace SB := Aside0.mk ((hb.block _ (blk_lt SB.out)).trans SB.out)
      replace KK := Aside0.mk (KK.out.trans (hb.mono KK.out.size))
      clear hb
      go_wp2_with fail
      refine (non_uva NV.out).mono ?_
      rintro e wn ⟨rfl, hb⟩
      replace NV := Aside0.mk (NV.out.below hb)
      replace ZZ := Aside0.mk ((hb.block _ (blk_lt ZZ.out)).trans ZZ.out)
      replace SB := Aside0.mk ((hb.block _ (blk_lt SB.out)).trans SB.out)
      replace KK := Aside0.mk (KK.out.trans (hb.mono KK.out.size))
      clear hb
      go_wp2_with fail
      refine (non_rest NV.out).mono ?_
      rintro e wn ⟨rfl, hb⟩
      replace NV := Aside0.mk (NV.out.below hb)
      replace ZZ := Aside0.mk ((hb.block _ (blk_lt ZZ.out)).trans ZZ.out)
      replace SB := Aside0.mk ((hb.block _ (blk_lt SB.out)).trans SB.out)
      replace KK := Aside0.mk (KK.out.trans (hb.mono KK.out.size))
      clear hb
      go_wp2_with fail
      refine (non_err NV.out).mono ?_
      rintro e wn ⟨rfl, hb⟩
      replace NV := Aside0.mk (NV.out.below hb)
      replace ZZ := Aside0.mk ((hb.block _ (blk_lt ZZ.out)).trans ZZ.out)
      replace SB := Aside0.mk ((hb.block _ (blk_lt SB.out)).trans SB.out)
      replace KK := Aside0.mk (KK.out.trans (hb.mono KK.out.size))
      clear hb
      go_wp2_with fail
      refine (non_end NV.out).mono ?_
      rintro e wn ⟨rfl, hb⟩
      replace NV := Aside0.mk (NV.out.below hb)
      replace ZZ := Aside0.mk ((hb.block _ (blk_lt ZZ.out)).trans ZZ.out)
      replace SB := Aside0.mk ((hb.block _ (blk_lt SB.out)).trans SB.out)
      replace KK := Aside0.mk (KK.out.trans (hb.mono KK.out.size))
      clear hb
      go_wp2_with fail
      go_roundg (gk - 1)
      case measure => exact HM.out
      case rel => exact ⟨k + 1, HV.out, HN, ZZ, SB, KK⟩
    have hke : k = 2 := en_k HJ.out hlt
    subst hke
    have hge : decide (((2 : Nat) : Int) < 2) = false := by decide
    clear hlt ZZ SB
    obtain ⟨wz, hwz⟩ : ∃ x, x = wr := ⟨_, rfl⟩
    subst hwz
    obtain ⟨i0, I0, hzz⟩ := Option.map_eq_some_iff.1 info5
    simp only [Prod.mk.injEq] at hzz
    have II := Aside0.mk (And.intro I0 hzz)
    clear I0 hzz
    obtain ⟨m, hm⟩ : ∃ m, m = l.length + 9 := ⟨_, rfl⟩
    have hw9 : wrap64 ((l.length : Int) + 9) = (m : Int) := by have h1 := HL.out; rw [w64id (by omega) (by omega)]; omega
    have MM := Aside0.mk (show m ≤ 140737488351250 from by have h1 := HL.out; omega)
    have ML := Aside0.mk (show l.length ≤ m from by omega)
    have C1 := Aside0.mk (Kd.C_below CC.out KK.out)
    clear hm CC
    go_wp2_with (first
      | (at_make; (refine wpList_make_own wz rfl (.const (.int .i64 0)) (.tmp 60) 22 rfl wz.heap.size 5 i0 (.int .u8 0) 1 Try.underlying22 II.out.1 II.out.2.1 II.out.2.2.1 .i64 .i64 _ m rfl rfl hw9 ?b2 ?b3 (Nat.le_refl _) ?_); (case b2 => (rw [II.out.2.2.2]; have := MM.out; omega)); (case b3 => (have := MM.out; unfold maxLen; omega)); intro w2 hown hg2; have OM := Aside0.mk hown; have HB2 := Aside0.mk ((Below.refl wz.heap.size wz).grown hg2 (Nat.le_refl _) (fun _ h => by cases h)); have C2 := Aside0.mk (Kd.C_below C1.out HB2.out); clear hown hg2)
      | (at_builtin; (refine Kd.R_append_rows (Kd.int .u8) (w0 := wz) wz.heap.size rfl (.tmp 61) (.tmp 62) 22 5 (.int .u8 0) 1 rfl Try.underlying22 info5 rfl (by decide) (by decide) (.slice (some ⟨wz.heap.size, 0, none⟩) 0 m) ([] : List Int) l A l.length c (fun _ => True) (fun _ => False) rfl rfl ?aO ?aR (fun _ _ h => h) (fun _ h => h.elim) ?aF ?aB ?aS ?aL ?_); (case aO => exact ⟨fun _ _ => trivial, [], OM.out, Reps.none _ _⟩); (case aR => exact C2.out); (case aF => (exact (fun _ _ => trivial))); (case aB => exact HB2.out); (case aS => exact HB2.out.size); (case aL => (have := HL.out; simp; omega)); intro v1 w3 ho hbn hg hat; rw [List.nil_append] at ho; obtain ⟨RA, rc, hv1, hRO⟩ := own_of ho; subst hv1; have RO := Aside0.mk hRO; have HB3 := Aside0.mk hbn; clear ho hbn hg hat hRO OM HB2 C2))
    have S0 := Aside0.mk (show w.heap.size ≤ wz.heap.size ∧ wz.heap.size ≤ w3.heap.size from ⟨KK.out.size, HB3.out.size⟩)
    have RL := Aside0.mk (own_lt RO.out)
    replace KK := Aside0.mk (KK.out.trans (HB3.out.mono KK.out.size))
    have C3 := Aside0.mk (Kd.C_below C1.out HB3.out)
    clear HB3 C1 II MM ML hw9
    refine (clone_o (n := l.length) C3.out rfl HC.out HL.out).mono ?_
    rintro e w4 ⟨WB, wd, rfl, hO, hb⟩
    have WO := Aside0.mk hO
    have WL := Aside0.mk (own_lt hO)
    have S4 := Aside0.mk hb.size
    replace RO := Aside0.mk (own_below RO.out hb)
    replace KK := Aside0.mk (KK.out.trans (hb.mono KK.out.size))
    clear hO hb C3
    go_wp2_with fail
    refine (read_c RO.out.C RO.out.cap HL.out HB.out).mono ?_
    rintro e w5 ⟨gR, rfl, hgR, hR, hb⟩
    have RR := Aside0.mk hR
    have RG := Aside0.mk (show w4.heap.size ≤ gR ∧ gR < w5.heap.size from ⟨hgR, hR.lt⟩)
    replace RO := Aside0.mk (own_below RO.out hb)
    replace WO := Aside0.mk (own_below WO.out hb)
    replace KK := Aside0.mk (KK.out.trans (hb.mono KK.out.size))
    clear hR hb hgR
    go_wp2_with fail
    refine (seal_o RO.out.C RO.out.cap HL.out HB.out).mono ?_
    rintro e w6 ⟨SA, sd, rfl, hO, hb⟩
    have SO := Aside0.mk hO
    have SL := Aside0.mk (own_lt hO)
    have S6 := Aside0.mk hb.size
    replace RO := Aside0.mk (own_below RO.out hb)
    replace WO := Aside0.mk (own_below WO.out hb)
    replace RR := Aside0.mk (RR.out.below hb)
    replace KK := Aside0.mk (KK.out.trans (hb.mono KK.out.size))
    clear hO hb
    go_wp2_with fail
    refine (rs_all RR.out).mono ?_
    rintro e w7 ⟨⟨XA, xd, rfl, hO⟩, hR, hf⟩
    have N7 := Aside0.mk (nums7 S0.out S4.out RG.out S6.out hf.size)
    replace RO := Aside0.mk (own_ne RO.out RL.out hf (.inr N7.out.1))
    replace WO := Aside0.mk (own_ne WO.out WL.out hf (.inr N7.out.2.1))
    replace SO := Aside0.mk (own_ne SO.out SL.out hf (.inl N7.out.2.2.1))
    replace RR := Aside0.mk hR
    replace KK := Aside0.mk (hf.below KK.out (fun i hi => hi ▸ N7.out.2.2.2) KK.out.size)
    obtain ⟨gX, hgX, hXP, hXR⟩ := pick_blk hO hf.size
    have P1 := Aside0.mk hXP
    have G1 := Aside0.mk hXR
    have XG := Aside0.mk hgX
    have S7 := Aside0.mk hf.size
    clear hO hR hf hXP hXR hgX
    go_wp2_with fail
    go_loopg [76] l.length (fun q v w' => ∃ (k : Nat), v = .int .i64 (k : Int) ∧ Aside0 (k + q = l.length) ∧ Aside0 (Fr (· = gX) w7 w') ∧ Aside0 (RowAt w' gX l.length))
    case atStart => exact ⟨0, rfl, ⟨Nat.zero_add _⟩, ⟨Fr.refl _ _⟩, G1⟩
    case round =>
      clear G1
      obtain ⟨k, rfl, HJ, FX, GX⟩ := hrel
      by_cases hlt : k < l.length
      case pos =>
        have hgd := (di_t hlt).1
        have hgd2 := (di_t hlt).2
        have HN := Aside0.mk (st_n HJ.out hlt).1
        have HM := Aside0.mk (st_n HJ.out hlt).2
        have HV := Aside0.mk (stepv hlt HL.out)
        obtain ⟨x, hx, hfz⟩ := rowAt_cell GX.out hlt
        have GS := Aside0.mk (rowAt_set GX.out k (Go.bits .xor .u8 x 255))
        have FS := Aside0.mk (Fr.set (F := (· = gX)) (p := ⟨gX, k, none⟩) FX.out rfl (.int .u8 (Go.bits .xor .u8 x 255)))
        have hAe := pick_at P1.out hlt
        subst hAe
        clear HJ
        go_wp2_with fail
        go_roundg (gk - 1)
        case measure => exact HM.out
        case rel => exact ⟨k + 1, HV.out, HN, FS, GS⟩
      have hke : k = l.length := en_k HJ.out hlt
      have hge : decide ((k : Int) < (l.length : Int)) = false := by rw [hke]; simp
      have hge2 : decide (k < l.length) = false := by rw [hke]; simp
      clear hlt hke GX
      obtain ⟨wx, hwx⟩ : ∃ x, x = wr := ⟨_, rfl⟩
      subst hwx
      have NX := Aside0.mk (nums8 N7.out XG.out RG.out S6.out S4.out S0.out)
      replace RO := Aside0.mk (own_ne RO.out RL.out FX.out (.inr NX.out.1))
      replace WO := Aside0.mk (own_ne WO.out WL.out FX.out (.inr NX.out.2.1))
      replace SO := Aside0.mk (own_ne SO.out SL.out FX.out (.inr XG.out))
      replace RR := Aside0.mk (RR.out.fr FX.out (fun h => Nat.lt_irrefl _ (h ▸ NX.out.2.2.1)) (fun q hq h => Nat.lt_irrefl _ (Nat.lt_trans (h ▸ hq.2) NX.out.2.2.1)))
      replace KK := Aside0.mk (FX.out.below KK.out (fun i hi => hi ▸ NX.out.2.2.2) KK.out.size)
      have S8 := Aside0.mk FX.out.size
      clear FX P1 HJ
      obtain ⟨gY, hgY, hYP, hYR⟩ := pick_blk RO.out (Nat.le_trans (Nat.le_trans S0.out.2 (Nat.le_trans S4.out (Nat.le_trans RG.out.1 (Nat.le_trans (Nat.le_of_lt RG.out.2) (Nat.le_trans S6.out S7.out))))) S8.out)
      have P2 := Aside0.mk hYP
      have G2 := Aside0.mk hYR
      have YG := Aside0.mk (show w.heap.size ≤ gY from Nat.le_trans S0.out.1 hgY)
      have YN := Aside0.mk (numsY hYP RL.out S7.out S8.out)
      clear hYP hYR hgY
      go_wp2_with fail
      clear hge hge2
      go_loopg [88] l.length (fun q v w' => ∃ (k : Nat), v = .int .i64 (k : Int) ∧ Aside0 (k + q = l.length) ∧ Aside0 (Fr (· = gY) wx w') ∧ Aside0 (RowAt w' gY l.length))
      case atStart => exact ⟨0, rfl, ⟨Nat.zero_add _⟩, ⟨Fr.refl _ _⟩, G2⟩
      case round =>
        clear G2
        obtain ⟨k, rfl, HJ, FX, GX⟩ := hrel
        by_cases hlt : k < l.length
        case pos =>
          have hgd := (di_t hlt).1
          have hgd2 := (di_t hlt).2
          have HN := Aside0.mk (st_n HJ.out hlt).1
          have HM := Aside0.mk (st_n HJ.out hlt).2
          have HV := Aside0.mk (stepv hlt HL.out)
          obtain ⟨x, hx, hfz⟩ := rowAt_cell GX.out hlt
          have GS := Aside0.mk (rowAt_set GX.out k (Go.bits .xor .u8 x 255))
          have FS := Aside0.mk (Fr.set (F := (· = gY)) (p := ⟨gY, k, none⟩) FX.out rfl (.int .u8 (Go.bits .xor .u8 x 255)))
          have hAe := pick_at P2.out hlt
          subst hAe
          clear HJ
          go_wp2_with fail
          go_roundg (gk - 1)
          case measure => exact HM.out
          case rel => exact ⟨k + 1, HV.out, HN, FS, GS⟩
        have hke : k = l.length := en_k HJ.out hlt
        have hge : decide ((k : Int) < (l.length : Int)) = false := by rw [hke]; simp
        have hge2 : decide (k < l.length) = false := by rw [hke]; simp
        clear hlt hke GX
        obtain ⟨wy, hwy⟩ : ∃ x, x = wr := ⟨_, rfl⟩
        subst hwy
        have NY := Aside0.mk (nums9 YN.out RG.out S6.out S4.out S7.out)
        replace WO := Aside0.mk (own_ne WO.out WL.out FX.out NY.out.1)
        replace SO := Aside0.mk (own_ne SO.out SL.out FX.out NY.out.2.1)
        replace RR := Aside0.mk (RR.out.fr FX.out (fun h => NY.out.2.2.1 h.symm) (fun q hq h => NY.out.2.2.2 q hq.1 hq.2 h))
        replace KK := Aside0.mk (FX.out.below KK.out (fun i hi => hi ▸ YG.out) KK.out.size)
        clear FX P2 HJ
        go_wp2_with fail
        clear hge hge2
        refine (unseal_o SO.out.C SO.out.cap HL.out HB.out).mono ?_
        rintro e w9 ⟨YB, yd, rfl, hO, hb⟩
        have YO := Aside0.mk hO
        replace WO := Aside0.mk (own_below WO.out hb)
        replace RR := Aside0.mk (RR.out.below hb)
        replace KK := Aside0.mk (KK.out.trans (hb.mono KK.out.size))
        clear hO hb SO
        go_wp2_with fail
        refine (equal_o YO.out WO.out).mono ?_
        rintro e wE ⟨rfl, hb⟩
        replace RR := Aside0.mk (RR.out.below hb)
        replace KK := Aside0.mk (KK.out.trans (hb.mono KK.out.size))
        clear hb
        go_wp2_with fail
        refine (rs_err RR.out).mono ?_
        rintro e wF ⟨rfl, hb⟩
        replace KK := Aside0.mk (KK.out.trans (hb.mono KK.out.size))
        clear hb
        go_wp2_with fail
        go_ret
        exact ⟨by simp, KK.out⟩
theorem WordNone (w : World) (A : Option Addr) (c : Nat) (l : List Int) (hw : ∀ x ∈ l, (Lit.int .u8 x).wf = true) (hl : l.length * 1 ≤ 140737488351232) (hC : Kd.C (Kd.int .u8) w A l.length l) (hc : l.length ≤ c) (n : Int) (_ : (Lit.int .i64 n).wf = true) :
    Calls Try.prog 10 #[.slice A l.length c, .int .i64 n] w fun e w' => e = .returned (.bool true) ∧ Below w.heap.size w w' := none_walk w A c l hC hc (by omega) (bytes_wf hw) n
end Go.Proofs.Ytnhihiadmllnkaa.Pure
