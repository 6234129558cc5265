/- Whatever is asked of a reader of any bytes: each answer, and the first error, are the document's: walked. -/
import Derived.Test.YtnhihiadmllnkaaRd4
import Derived.Test.YtnhihiadmllnkaaArg
import Derived.Test.YtnhihiadmllnkaaPAllx2
import Derived.Lib.Bytes
namespace Go.Proofs.Ytnhihiadmllnkaa.Pure
open Go.RowKit Go.Proofs.Ytnhihiadmllnkaa Go.Proofs.Ytnhihiadmllnkaa.PAll Go.Proofs.Ytnhihiadmllnkaa.Mem Go.Proofs.Ytnhihiadmllnkaa.Arg Go.Proofs.YtnhihiadmllnkaaW.PrintWords Go.Proofs.YtnhihiadmllnkaaW.PrintLast Go.Proofs.YtnhihiadmllnkaaW.PrintMore
set_option linter.unusedVariables false
set_option linter.unusedSimpArgs false

theorem live_c (w : World) : Calls Try.prog 11 #[] w fun e w' => e = .returned (.bool true) ∧ Below w.heap.size w w' := atticlaw01_live.calls true w (by unfold atticlaw01_live.f; rfl)
theorem equal_c {w : World} {A B : Option Addr} {c d n : Nat} {l : List Int} (hC : Kd.F (Kd.int .u8) w (fun _ => True) A l.length l) (hn : l.length = n) (hc : n ≤ c) (hD : Kd.F (Kd.int .u8) w (fun _ => True) B l.length l) (hd : n ≤ d) :
    Calls Try.prog 16 #[.slice A n c, .slice B n d] w fun e w' => e = .returned (.bool true) ∧ Below w.heap.size w w' := by
  subst hn
  refine (bytes_Equal.calls A c l B d l true w (Kd.F_now hC) hc (Kd.F_now hD) hd (equal_self l)).mono ?_
  rintro e w' ⟨rfl, hb⟩
  exact ⟨rfl, drawn_below hb⟩
/-- What is asked. -/
def AskK (x : Int × Int) (cs : List Value) : Prop := cs = [.int .i64 x.1, .int .i64 x.2]
theorem asks_at {w : World} {A : Option Addr} {n : Nat} {xs : List (Int × Int)} (h : ReadsRow AskK 2 w A n xs) (i : Nat) (hi : i < xs.length) : ∃ ad, A = some ad ∧ w.cell? (ad.add (i * 2)) = some (.int .i64 (xs[i]).1) ∧ w.cell? ⟨(ad.add (i * 2)).block, (ad.add (i * 2)).off + 1, none⟩ = some (.int .i64 (xs[i]).2) := by
  obtain ⟨ad, hA, hc⟩ := h.2.2 (by have := h.1; omega)
  obtain ⟨cs, hl, rfl, hcell⟩ := hc i _ (List.getElem?_eq_getElem hi)
  have q0 := hcell 0 _ rfl
  have q1 := hcell 1 _ rfl
  rw [Nat.add_zero] at q0
  rw [add_field ad (i * 2) 1 (by decide)] at q1
  exact ⟨ad, hA, q0, q1⟩
theorem st_n {k q n : Nat} (h : k + q = n) (hl : k < n) : k + 1 + (q - 1) = n ∧ q - 1 < q := by omega
theorem en_k {k q n : Nat} (h : k + q = n) (hl : ¬ k < n) : k = n := by omega
theorem di_t {k n : Nat} (h : k < n) : decide ((k : Int) < (n : Int)) = true ∧ decide (k < n) = true := ⟨decide_eq_true (by omega), decide_eq_true h⟩
theorem stepv {k n : Nat} (h : k < n) (hn : n ≤ 140737488351232) : Value.int .i64 (wrap64 ((k : Int) + 1)) = .int .i64 ((k + 1 : Nat) : Int) := by
  rw [show wrap64 ((k : Int) + 1) = ((k + 1 : Nat) : Int) by unfold wrap64; omega]
theorem bx_cells {w : World} {g : Nat} {a b : Int} {t : TypeId} (h : w.heap[g]? = some (.cells #[.int .i64 a, .int .i64 b] t (0, 0))) : w.cell? ⟨g, 0, none⟩ = some (.int .i64 a) ∧ w.cell? ⟨g, 1, none⟩ = some (.int .i64 b) := by
  refine ⟨?_, ?_⟩ <;> (unfold World.cell?; simp only [h]; rfl)
/-- Two readers side by side. -/
structure Two (w0 w : World) (gR gW : Nat) (UR UW : Nat → Prop) (L : List Int) (e : Int) : Prop where
  R : RS w gR UR L e
  W : WS w gW UW L e
  K : Below w0.heap.size w0 w
theorem Two.below {w0 w w' : World} {gR gW : Nat} {UR UW : Nat → Prop} {L : List Int} {e : Int} (h : Two w0 w gR gW UR UW L e) (hb : Below w.heap.size w w') : Two w0 w' gR gW UR UW L e := ⟨h.R.below hb, h.W.below hb, h.K.trans (hb.mono h.K.size)⟩
structure Apart (w0 : World) (gR gW : Nat) (UR UW : Nat → Prop) : Prop where
  ne : gR ≠ gW
  r : ∀ k, UW k → k ≠ gR
  w : ∀ k, UR k → k ≠ gW
  br : w0.heap.size ≤ gR
  bw : w0.heap.size ≤ gW
set_option maxRecDepth 100000 in
set_option maxHeartbeats 16000000 in
theorem reads_walk (w : World) (A : Option Addr) (c : Nat) (l : List Int) (hC : Kd.C (Kd.int .u8) w A l.length l) (hc : l.length ≤ c) (hl : l.length ≤ 140737488351232) (hb : Bytes l) (AA : Option Addr) (ca : Nat) (xs : List (Int × Int)) (hX : ReadsRow AskK 2 w AA xs.length xs) (hxl : xs.length ≤ 140737488351232) :
    Calls Try.prog 9 #[.slice A l.length c, .slice AA xs.length ca] w fun e w' => e = .returned (.bool true) ∧ Below w.heap.size w w' := by
  have CC := Aside0.mk hC
  have HC := Aside0.mk hc
  have HL := Aside0.mk hl
  have HB := Aside0.mk hb
  have HX := Aside0.mk hX
  have XL := Aside0.mk hxl
  clear hC hc hl hb hX hxl
  go_enter Try.func9, Try.ntmps9
  go_wp2_with fail
  refine (read_c CC.out HC.out HL.out HB.out).mono ?_
  rintro e w1 ⟨gR, rfl, hgR, hR, hb1⟩
  have R1 := Aside0.mk hR
  have K1 := Aside0.mk hb1
  have C1 := Aside0.mk (Kd.C_below CC.out hb1)
  have NR := Aside0.mk hgR
  clear hR hb1 hgR
  go_wp2_with fail
  refine (rread_c C1.out HC.out HL.out HB.out).mono ?_
  rintro e w2 ⟨gW, rfl, hgW, hW, hb1⟩
  have AP := Aside0.mk (show Apart w gR gW (fun k => w.heap.size ≤ k ∧ k < gR) (fun k => w1.heap.size ≤ k ∧ k < gW) from by
    have h1 := R1.out.lt
    have h2 := K1.out.size
    have h3 := NR.out
    refine ⟨?_, fun k hk => ?_, fun k hk => ?_, h3, ?_⟩
    · omega
    · have := hk.1; omega
    · have := hk.2; omega
    · omega)
  have TT := Aside0.mk (show Two w w2 gR gW (fun k => w.heap.size ≤ k ∧ k < gR) (fun k => w1.heap.size ≤ k ∧ k < gW) l 0 from ⟨R1.out.below hb1, hW, K1.out.trans (hb1.mono K1.out.size)⟩)
  obtain ⟨UR, hUR⟩ : ∃ U, U = (fun k => w.heap.size ≤ k ∧ k < gR) := ⟨_, rfl⟩
  obtain ⟨UW, hUW⟩ : ∃ U, U = (fun k => w1.heap.size ≤ k ∧ k < gW) := ⟨_, rfl⟩
  rw [← hUR, ← hUW] at AP TT
  clear hUR hUW hW hb1 hgW R1 K1 C1 NR CC
  go_wp2_with fail
  refine (live_c _).mono ?_
  rintro e w3 ⟨rfl, hb1⟩
  replace TT := Aside0.mk (TT.out.below hb1)
  clear hb1
  go_wp2_with fail
  go_loopg [22] xs.length (fun q v22 w' => ∃ (k : Nat) (L : List Int) (e : Int), v22 = .int .i64 (k : Int) ∧ Aside0 (k + q = xs.length) ∧ Aside0 (Two w w' gR gW UR UW L e))
  case atStart => exact ⟨0, l, 0, rfl, ⟨Nat.zero_add _⟩, TT⟩
  case round =>
    clear TT
    obtain ⟨k, L, e, rfl, HJ, TT⟩ := hrel
    by_cases hlt : k < xs.length
    case pos =>
      have hgd := (di_t hlt).1
      have hgd2 := (di_t hlt).2
      have HN := Aside0.mk (st_n HJ.out hlt).1
      have HM := Aside0.mk (st_n HJ.out hlt).2
      have HV := Aside0.mk (stepv hlt XL.out)
      have hXr : ReadsRow AskK 2 wr AA xs.length xs := HX.out.imp_ TT.out.K (fun _ _ h => h)
      obtain ⟨ad, hAA, q0, q1⟩ := asks_at hXr k hlt
      obtain ⟨⟨d, n⟩, hdn⟩ : ∃ y, y = xs[k] := ⟨_, rfl⟩
      rw [← hdn] at q0 q1
      simp only at q0 q1
      cases hAA
      clear hXr hdn HJ
      go_upto_region 8 with fail
      have BX := Aside0.mk (heap_new wr (.cells #[.int .i64 d, .int .i64 n] 54))
      have NB := Aside0.mk (show wr.heap.size ≠ gR ∧ wr.heap.size ≠ gW from ⟨fun h => Nat.lt_irrefl _ (h ▸ TT.out.R.lt), fun h => Nat.lt_irrefl _ (h ▸ TT.out.W.lt)⟩)
      replace TT := Aside0.mk (TT.out.below ((Below.refl wr.heap.size wr).alloc (Nat.le_refl _) (.cells #[.int .i64 d, .int .i64 n] 54)))
      obtain ⟨wq, hwq⟩ : ∃ x, x = wr.alloc (.cells #[.int .i64 d, .int .i64 n] 54) := ⟨_, rfl⟩
      rw [← hwq] at BX TT ⊢
      clear hwq
      obtain ⟨gb, hgb⟩ : ∃ x, x = wr.heap.size := ⟨_, rfl⟩
      rw [← hgb] at BX NB ⊢
      clear hgb q0 q1
      obtain ⟨z0, z1⟩ := bx_cells BX.out
      by_cases h0 : d = 0
      case pos =>
        have g0 : (d == 0) = true := by simpa using h0
        clear h0
        obtain ⟨⟨v, L1, e1⟩, hr⟩ : ∃ r, r = nmR L e n := ⟨_, rfl⟩
        have QR := Aside0.mk (fun (w' : World) (h : RS w' gR UR L e) => rs_num h n)
        have QW := Aside0.mk (fun (w' : World) (h : WS w' gW UW L e) => ws_num h n)
        rw [← hr] at QR QW
        clear hr
        go_upto_region 11 with fail
        have TD := Aside0.mk (TT.out.below (below_drew (Below.refl _ _)))
        have BD := Aside0.mk (show (World.drew _).heap[gb]? = _ from BX.out)
        clear TT BX
        go_region_held3 (fun w' => w'.cell? ⟨gb, 0, none⟩ = some (.int .i64 d) ∧ w'.cell? ⟨gb, 1, none⟩ = some (.int .i64 n)) (go_keep)
          (first
            | (go_at_call 30; refine (QR.out _ TD.out.R).mono ?_; rintro e9 wa ⟨rfl, hR, hf⟩; have RA := Aside0.mk hR; have WA := Aside0.mk (TD.out.W.fr hf (fun h => AP.out.ne h.symm) AP.out.r); have KA := Aside0.mk (hf.below TD.out.K (fun i hi => hi ▸ AP.out.br) TD.out.K.size); have BA := Aside0.mk (fr_blk hf BD.out NB.out.1); clear hR hf TD BD z0 z1; obtain ⟨z0, z1⟩ := bx_cells BA.out)
            | (go_at_call 31; refine (QW.out _ WA.out).mono ?_; rintro e9 wb ⟨rfl, hR, hf⟩; have TT := Aside0.mk (show Two w wb gR gW UR UW L1 e1 from ⟨RA.out.fr hf AP.out.ne AP.out.w, hR, hf.below KA.out (fun i hi => hi ▸ AP.out.bw) KA.out.size⟩); have BB := Aside0.mk (fr_blk hf BA.out NB.out.2); clear hR hf RA WA KA BA z0 z1; obtain ⟨z0, z1⟩ := bx_cells BB.out))
        clear z0 z1 BB
        go_upto_region 14 with fail
        obtain ⟨en, hen⟩ : ∃ x, x = enR L1 e1 := ⟨_, rfl⟩
        have QE := Aside0.mk (fun (w' : World) (h : RS w' gR UR L1 e1) => rs_end h)
        have QF := Aside0.mk (fun (w' : World) (h : WS w' gW UW L1 e1) => ws_end h)
        rw [← hen] at QE QF
        obtain ⟨_, B2, c2, h1, _⟩ := TT.out.W
        obtain ⟨y0, y1⟩ := rr_cells h1
        replace TT := Aside0.mk (TT.out.below (below_drew (Below.refl _ _)))
        have GW := Aside0.mk (show (World.drew _).heap[gW]? = _ from h1)
        clear h1 hen
        go_region_held3 (fun w' => w'.cell? ⟨gW, 0, none⟩ = some (.slice B2 L1.length c2) ∧ w'.cell? ⟨gW, 1, none⟩ = some (.int .i64 e1)) (go_keep)
          (first
            | (go_at_call 36; refine (rs_err TT.out.R).mono ?_; rintro e9 wn ⟨rfl, hb⟩; replace TT := Aside0.mk (TT.out.below hb); replace GW := Aside0.mk ((hb.block _ (blk_lt GW.out)).trans GW.out); clear hb y0 y1; obtain ⟨y0, y1⟩ := rr_cells GW.out)
            | (go_at_call 37; refine (rs_rest TT.out.R).mono ?_; rintro e9 wn ⟨rfl, hb⟩; replace TT := Aside0.mk (TT.out.below hb); replace GW := Aside0.mk ((hb.block _ (blk_lt GW.out)).trans GW.out); clear hb y0 y1; obtain ⟨y0, y1⟩ := rr_cells GW.out)
            | (go_at_call 38; refine (QE.out _ TT.out.R).mono ?_; rintro e9 wn ⟨rfl, hb⟩; replace TT := Aside0.mk (TT.out.below hb); replace GW := Aside0.mk ((hb.block _ (blk_lt GW.out)).trans GW.out); clear hb y0 y1; obtain ⟨y0, y1⟩ := rr_cells GW.out)
            | (go_at_call 39; refine (QF.out _ TT.out.W).mono ?_; rintro e9 wn ⟨rfl, hb⟩; replace TT := Aside0.mk (TT.out.below hb); replace GW := Aside0.mk ((hb.block _ (blk_lt GW.out)).trans GW.out); clear hb y0 y1; obtain ⟨y0, y1⟩ := rr_cells GW.out))
        go_wp2_with fail
        go_roundg (gk - 1)
        case measure => exact HM.out
        case rel => exact ⟨k + 1, L1, e1, HV.out, HN, TT⟩
      by_cases h1 : d = 1
      case pos =>
        have g0 : (d == 0) = false := by simpa using h0
        have g1 : (d == 1) = true := by simpa using h1
        clear h0 h1
        obtain ⟨⟨v, L1, e1⟩, hr⟩ : ∃ r, r = byR L e n := ⟨_, rfl⟩
        have QR := Aside0.mk (fun (w' : World) (h : RS w' gR UR L e) => rs_byt h n)
        have QW := Aside0.mk (fun (w' : World) (h : WS w' gW UW L e) => ws_byt h n)
        rw [← hr] at QR QW
        clear hr
        go_upto_region 13 with fail
        have TD := Aside0.mk (TT.out.below (below_drew (Below.refl _ _)))
        have BD := Aside0.mk (show (World.drew _).heap[gb]? = _ from BX.out)
        clear TT BX
        go_region_held3 (fun w' => w'.cell? ⟨gb, 0, none⟩ = some (.int .i64 d) ∧ w'.cell? ⟨gb, 1, none⟩ = some (.int .i64 n)) (go_keep)
          (first
            | (go_at_call 32; refine (QR.out _ TD.out.R).mono ?_; rintro e9 wa ⟨⟨A1, d1, rfl, hd1, hF1⟩, hR, hf⟩; have RA := Aside0.mk hR; have FA := Aside0.mk (Kd.F_bound hF1); have GA := Aside0.mk (Nat.le_trans hf.size (Nat.le_refl _)); have LW := Aside0.mk TD.out.W.lt; have WA := Aside0.mk (TD.out.W.fr hf (fun h => AP.out.ne h.symm) AP.out.r); have KA := Aside0.mk (hf.below TD.out.K (fun i hi => hi ▸ AP.out.br) TD.out.K.size); have BA := Aside0.mk (fr_blk hf BD.out NB.out.1); clear hR hf hF1 TD BD z0 z1; obtain ⟨z0, z1⟩ := bx_cells BA.out)
            | (go_at_call 33; refine (QW.out _ WA.out).mono ?_; rintro e9 wb ⟨⟨A2, d2, rfl, hd2, hF2⟩, hR, hf⟩; have FB := Aside0.mk (Kd.F_mono hF2 (ok' := fun _ => True) (fun _ _ => trivial)); have FC := Aside0.mk (Kd.F_mono (F_fr FA.out hf (fun q hq hg => Nat.lt_irrefl _ (Nat.lt_of_lt_of_le LW.out (hg ▸ hq.1)))) (ok' := fun _ => True) (fun _ _ => trivial)); have TT := Aside0.mk (show Two w wb gR gW UR UW L1 e1 from ⟨RA.out.fr hf AP.out.ne AP.out.w, hR, hf.below KA.out (fun i hi => hi ▸ AP.out.bw) KA.out.size⟩); have BB := Aside0.mk (fr_blk hf BA.out NB.out.2); clear hR hf hF2 RA WA KA BA FA z0 z1; obtain ⟨z0, z1⟩ := bx_cells BB.out)
            | (go_at_call 16; refine (equal_c (l := v) FC.out rfl hd1 FB.out hd2).mono ?_; rintro e9 wc ⟨rfl, hb⟩; replace TT := Aside0.mk (TT.out.below hb); replace BB := Aside0.mk ((hb.block _ (blk_lt BB.out)).trans BB.out); clear hb z0 z1 FB FC; obtain ⟨z0, z1⟩ := bx_cells BB.out))
        clear z0 z1 BB
        go_upto_region 14 with fail
        obtain ⟨en, hen⟩ : ∃ x, x = enR L1 e1 := ⟨_, rfl⟩
        have QE := Aside0.mk (fun (w' : World) (h : RS w' gR UR L1 e1) => rs_end h)
        have QF := Aside0.mk (fun (w' : World) (h : WS w' gW UW L1 e1) => ws_end h)
        rw [← hen] at QE QF
        obtain ⟨_, B2, c2, h1, _⟩ := TT.out.W
        obtain ⟨y0, y1⟩ := rr_cells h1
        replace TT := Aside0.mk (TT.out.below (below_drew (Below.refl _ _)))
        have GW := Aside0.mk (show (World.drew _).heap[gW]? = _ from h1)
        clear h1 hen
        go_region_held3 (fun w' => w'.cell? ⟨gW, 0, none⟩ = some (.slice B2 L1.length c2) ∧ w'.cell? ⟨gW, 1, none⟩ = some (.int .i64 e1)) (go_keep)
          (first
            | (go_at_call 36; refine (rs_err TT.out.R).mono ?_; rintro e9 wn ⟨rfl, hb⟩; replace TT := Aside0.mk (TT.out.below hb); replace GW := Aside0.mk ((hb.block _ (blk_lt GW.out)).trans GW.out); clear hb y0 y1; obtain ⟨y0, y1⟩ := rr_cells GW.out)
            | (go_at_call 37; refine (rs_rest TT.out.R).mono ?_; rintro e9 wn ⟨rfl, hb⟩; replace TT := Aside0.mk (TT.out.below hb); replace GW := Aside0.mk ((hb.block _ (blk_lt GW.out)).trans GW.out); clear hb y0 y1; obtain ⟨y0, y1⟩ := rr_cells GW.out)
            | (go_at_call 38; refine (QE.out _ TT.out.R).mono ?_; rintro e9 wn ⟨rfl, hb⟩; replace TT := Aside0.mk (TT.out.below hb); replace GW := Aside0.mk ((hb.block _ (blk_lt GW.out)).trans GW.out); clear hb y0 y1; obtain ⟨y0, y1⟩ := rr_cells GW.out)
            | (go_at_call 39; refine (QF.out _ TT.out.W).mono ?_; rintro e9 wn ⟨rfl, hb⟩; replace TT := Aside0.mk (TT.out.below hb); replace GW := Aside0.mk ((hb.block _ (blk_lt GW.out)).trans GW.out); clear hb y0 y1; obtain ⟨y0, y1⟩ := rr_cells GW.out))
        go_wp2_with fail
        go_roundg (gk - 1)
        case measure => exact HM.out
        case rel => exact ⟨k + 1, L1, e1, HV.out, HN, TT⟩
      case neg =>
        have g0 : (d == 0) = false := by simpa using h0
        have g1 : (d == 1) = false := by simpa using h1
        clear h0 h1
        obtain ⟨⟨v, L1, e1⟩, hr⟩ : ∃ r, r = uvR L e := ⟨_, rfl⟩
        have QR := Aside0.mk (fun (w' : World) (h : RS w' gR UR L e) => rs_uva h)
        have QW := Aside0.mk (fun (w' : World) (h : WS w' gW UW L e) => ws_uva h)
        rw [← hr] at QR QW
        clear hr
        go_wp2_with fail
        refine (QR.out _ TT.out.R).mono ?_
        rintro e9 wa ⟨rfl, hR, hf⟩
        have RA := Aside0.mk hR
        have WA := Aside0.mk (TT.out.W.fr hf (fun h => AP.out.ne h.symm) AP.out.r)
        have KA := Aside0.mk (hf.below TT.out.K (fun i hi => hi ▸ AP.out.br) TT.out.K.size)
        clear hR hf TT BX z0 z1
        go_wp2_with fail
        refine (QW.out _ WA.out).mono ?_
        rintro e9 wb ⟨rfl, hR, hf⟩
        have TT := Aside0.mk (show Two w wb gR gW UR UW L1 e1 from ⟨RA.out.fr hf AP.out.ne AP.out.w, hR, hf.below KA.out (fun i hi => hi ▸ AP.out.bw) KA.out.size⟩)
        clear hR hf RA WA KA
        go_upto_region 14 with fail
        obtain ⟨en, hen⟩ : ∃ x, x = enR L1 e1 := ⟨_, rfl⟩
        have QE := Aside0.mk (fun (w' : World) (h : RS w' gR UR L1 e1) => rs_end h)
        have QF := Aside0.mk (fun (w' : World) (h : WS w' gW UW L1 e1) => ws_end h)
        rw [← hen] at QE QF
        obtain ⟨_, B2, c2, h1, _⟩ := TT.out.W
        obtain ⟨y0, y1⟩ := rr_cells h1
        replace TT := Aside0.mk (TT.out.below (below_drew (Below.refl _ _)))
        have GW := Aside0.mk (show (World.drew _).heap[gW]? = _ from h1)
        clear h1 hen
        go_region_held3 (fun w' => w'.cell? ⟨gW, 0, none⟩ = some (.slice B2 L1.length c2) ∧ w'.cell? ⟨gW, 1, none⟩ = some (.int .i64 e1)) (go_keep)
          (first
            | (go_at_call 36; refine (rs_err TT.out.R).mono ?_; rintro e9 wn ⟨rfl, hb⟩; replace TT := Aside0.mk (TT.out.below hb); replace GW := Aside0.mk ((hb.block _ (blk_lt GW.out)).trans GW.out); clear hb y0 y1; obtain ⟨y0, y1⟩ := rr_cells GW.out)
            | (go_at_call 37; refine (rs_rest TT.out.R).mono ?_; rintro e9 wn ⟨rfl, hb⟩; replace TT := Aside0.mk (TT.out.below hb); replace GW := Aside0.mk ((hb.block _ (blk_lt GW.out)).trans GW.out); clear hb y0 y1; obtain ⟨y0, y1⟩ := rr_cells GW.out)
            | (go_at_call 38; refine (QE.out _ TT.out.R).mono ?_; rintro e9 wn ⟨rfl, hb⟩; replace TT := Aside0.mk (TT.out.below hb); replace GW := Aside0.mk ((hb.block _ (blk_lt GW.out)).trans GW.out); clear hb y0 y1; obtain ⟨y0, y1⟩ := rr_cells GW.out)
            | (go_at_call 39; refine (QF.out _ TT.out.W).mono ?_; rintro e9 wn ⟨rfl, hb⟩; replace TT := Aside0.mk (TT.out.below hb); replace GW := Aside0.mk ((hb.block _ (blk_lt GW.out)).trans GW.out); clear hb y0 y1; obtain ⟨y0, y1⟩ := rr_cells GW.out))
        go_wp2_with fail
        go_roundg (gk - 1)
        case measure => exact HM.out
        case rel => exact ⟨k + 1, L1, e1, HV.out, HN, TT⟩
    have hke : k = xs.length := en_k HJ.out hlt
    have hge : decide ((k : Int) < (xs.length : Int)) = false := by rw [hke]; simp
    have hge2 : decide (k < xs.length) = false := by rw [hke]; simp
    clear hlt hke
    go_wp2_with fail
    refine (rs_end TT.out.R).mono ?_
    rintro e9 wn ⟨rfl, hb⟩
    replace TT := Aside0.mk (TT.out.below hb)
    clear hb
    go_wp2_with fail
    refine (ws_end TT.out.W).mono ?_
    rintro e9 wm ⟨rfl, hb⟩
    replace TT := Aside0.mk (TT.out.below hb)
    clear hb
    go_wp2_with fail
    go_ret
    exact ⟨by simp, TT.out.K⟩
def tyAsk : Ty := .cons (.int .i64) (.cons (.int .i64) .nil)
def tyAsks : Ty := .slice 16 tyAsk
theorem ty48_is : tyOf Try.prog 9 48 = some tyAsks := by kernel_rfl
def askOf (x : Int × Int × Unit) : Int × Int := (x.1, x.2.1)
theorem askOf_K {w : World} (x : Int × Int × Unit) (cs : List Value) (h : Ty.K w tyAsk x cs) : AskK (askOf x) cs := by
  obtain ⟨p, i, q⟩ := x
  obtain ⟨c0, c1, rfl, ⟨rfl, _⟩, c2, c3, rfl, ⟨rfl, _⟩, hn⟩ := h
  obtain rfl : c3 = [] := hn
  rfl
theorem WordReads (w : World) (A : Option Addr) (c : Nat) (l : List Int) (hw : ∀ x ∈ l, (Lit.int .u8 x).wf = true) (hl : l.length * 1 ≤ 140737488351232) (hC : Kd.C (Kd.int .u8) w A l.length l) (hc : l.length ≤ c) (v : Value) (x : tyAsks.T) (hx : Ty.K w tyAsks x [v]) :
    Calls Try.prog 9 #[.slice A l.length c, v] w fun e w' => e = .returned (.bool true) ∧ Below w.heap.size w w' := by
  obtain ⟨AA, ca, hv, hla, hwa, hr⟩ := hx
  have hr2 := rows_map (R' := AskK) askOf hr (fun p c hp => askOf_K p c hp)
  obtain rfl : v = _ := List.head_eq_of_cons_eq hv
  have hlen : (List.map askOf x).length = List.length (α := tyAsk.T) x := List.length_map _
  have h2 : (List.map askOf x).length ≤ 140737488351232 := by rw [hlen]; change List.length (α := tyAsk.T) x * 16 ≤ 140737488351232 at hwa; omega
  have := reads_walk w A c l hC hc (by omega) (bytes_wf hw) AA ca (List.map askOf x) (by rw [hlen]; exact hr2) h2
  rw [hlen] at this
  exact this
end Go.Proofs.Ytnhihiadmllnkaa.Pure
