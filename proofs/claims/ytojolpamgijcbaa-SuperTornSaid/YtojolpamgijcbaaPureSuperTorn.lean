/- A torn write leaves the old one or the new one. -/
import Derived.Test.YtojolpamgijcbaaTorn2
import Derived.Test.YtojolpamgijcbaaWZeros
import Derived.ArgAppend
import Derived.Deep.RegionHeld3
namespace Go.Proofs.Ytojolpamgijcbaa.Pure
open Go.RowKit Go.Proofs.Ytojolpamgijcbaa Go.Proofs.Ytojolpamgijcbaa.PAll Go.Proofs.Ytojolpamgijcbaa.PGt Go.Proofs.Ytojolpamgijcbaa.Mem Go.Proofs.YtojolpamgijcbaaW.PrintWords Go.Proofs.YtojolpamgijcbaaW.PrintLast Go.Proofs.YtojolpamgijcbaaW.PrintMore
set_option linter.unusedVariables false
set_option linter.unusedSimpArgs false
attribute [local go_sem high] eqA25
theorem own_set {w : World} {base g c : Nat} {l : List Int} (h : Own w base (some ⟨g, 0, none⟩) c l) {i : Nat} (hi : i < l.length) (v : Int) : Own (w.setCell ⟨g, i, none⟩ (.int .u8 v)) base (some ⟨g, 0, none⟩) c (l.set i v) := by
  obtain ⟨g', cur, h1, h2, h3, h4⟩ := h.blk (by omega)
  injection h1 with h1
  injection h1 with h1
  subst h1
  have hb : (w.setCell ⟨g, i, none⟩ (.int .u8 v)).heap[g]? = some (.cells (cur.set i (.int .u8 v)).toArray 5 (0, 0)) := by rw [blk_set h3 i]; simp
  have ht : (cur.set i (.int .u8 v)).take (l.set i v).length = encs (Value.int .u8) (l.set i v) := by
    rw [List.length_set, List.take_set, h4]
    simp [encs, List.map_set]
  refine ⟨by rw [List.length_set]; exact h.cap, ?_, fun _ => ⟨g, _, rfl, h2, hb, ht⟩⟩
  exact blk_C (enc := Value.int .u8) (h1 := fun _ => rfl) hb (by simpa using ht) (by rw [List.length_set]; exact h.C.2.1)
def tsP (pk : Int) (k : Nat) : Bool := decide (Go.bits .and .u8 (pk / 2 ^ (k / 64)) 1 = 1)
theorem tsP_low (pk : Int) (i : Nat) (h : i < 64) : tsP pk i = tsP pk 0 := by unfold tsP; rw [show i / 64 = 0 by omega]
theorem step_q2 {k q n : Nat} (h : k + q = n) (hl : k < n) : k + 1 + (q - 1) = n := by omega
theorem mea2 {k q n : Nat} (h : k + q = n) (hl : k < n) : q - 1 < q := by omega
theorem own_cell {w : World} {b g c : Nat} {l : List Int} (h : Own w b (some ⟨g, 0, none⟩) c l) {k : Nat} (hk : k < l.length) : w.cell? ⟨g, k, none⟩ = some (.int .u8 (l.getD k 0)) ∧ w.frozen? ⟨g, k, none⟩ = false := by
  obtain ⟨g', cur, h1, h2, h3, h4⟩ := h.blk (by omega)
  injection h1 with h1
  injection h1 with h1
  subst h1
  have hx := getD_of (L := cur) (xs := l) (o := 0) (enc := Value.int .u8) (by simpa using h4) k hk
  rw [Nat.zero_add] at hx
  refine ⟨by rw [blk_cell h3, List.getD_eq_getElem?_getD, List.getElem?_eq_getElem hk]; simpa using hx, blk_frozen h3 k⟩
theorem tsP_15 : ∀ n : Nat, n < 256 → (n : Int).tmod 16 = 15 → tsP n 0 = true := by decide +kernel
theorem tsP_no {pk : Int} (h : 0 ≤ pk ∧ pk < 256) (hP : ¬ tsP pk 0 = true) : ¬ pk.tmod 16 = 15 := fun h2 => by
  obtain ⟨n, rfl⟩ : ∃ n : Nat, pk = n := ⟨pk.toNat, by omega⟩
  exact hP (tsP_15 n (by omega) h2)
set_option maxRecDepth 100000 in
set_option maxHeartbeats 16000000 in
theorem SuperTorn (w : World) (a0 a1 a2 a3 a4 a5 h pk : Int) (hpk : 0 ≤ pk ∧ pk < 256) : Calls Try.prog 7 #[.agg #[.int .i64 a0, .int .i64 a1, .int .i64 a2, .int .i64 a3, .int .i64 a4, .int .i64 a5], .int .i64 h, .int .u8 pk] w fun e w' => e = .returned (.bool true) ∧ Below w.heap.size w w' := by
  have hu25 := Try.underlying25
  have hu23 := Try.underlying23
  obtain ⟨⟨n0, n1, n2, n3, n4, n5, ne⟩, hn1, _⟩ := next_eq 2 a0 a1 a2 a3 a4 a5 h (by decide)
  obtain ⟨ck, hc1, _⟩ := chk_eq 1 a0 a1 a2 a3 a4 a5 (by decide)
  have HN := Aside0.mk hn1
  have HC := Aside0.mk hc1
  have PK := Aside0.mk hpk
  have KK := Aside0.mk ((Below.refl w.heap.size w).alloc (Nat.le_refl _) (.cells (supCs a0 a1 a2 a3 a4 a5) 25))
  have S3 := Aside0.mk (heap_new w (.cells (supCs a0 a1 a2 a3 a4 a5) 25))
  clear hn1 hc1 hpk
  rename_i hx1 hx2
  clear hx1 hx2
  go_enter Try.func7, Try.ntmps7
  go_wp2_with fail
  refine (super_Next.calls 2 a0 a1 a2 a3 a4 a5 h n0 n1 n2 n3 n4 n5 ne _ HN.out).mono ?_
  rintro e w1 ⟨rfl, hb⟩
  obtain ⟨g7, hg⟩ : ∃ g, g = w1.heap.size := ⟨_, rfl⟩
  have hbn := hb.alloc hb.size (.cells (supCs n0 n1 n2 n3 n4 n5) 25)
  replace KK := Aside0.mk (KK.out.trans (hbn.mono KK.out.size))
  replace S3 := Aside0.mk ((hbn.block _ (blk_lt S3.out)).trans S3.out)
  have N7 := Aside0.mk (show (w1.alloc (.cells (supCs n0 n1 n2 n3 n4 n5) 25)).heap[g7]? = some (.cells (supCs n0 n1 n2 n3 n4 n5) 25 (0, 0)) from by rw [hg]; exact heap_new w1 _)
  clear hb hbn
  obtain ⟨s0, s1, s2, s3, s4, s5⟩ := sup_cells S3.out
  go_wp2_with fail
  rw [← hg]
  clear hg s0 s1 s2 s3 s4 s5
  refine (sbytes_c HC.out).mono ?_
  rintro e w2 ⟨X, cx, rfl, hX, hb⟩
  replace KK := Aside0.mk (KK.out.trans (hb.mono KK.out.size))
  replace S3 := Aside0.mk ((hb.block _ (blk_lt S3.out)).trans S3.out)
  replace N7 := Aside0.mk ((hb.block _ (blk_lt N7.out)).trans N7.out)
  have OW := Aside0.mk hX
  clear hb hX
  go_wp2_with fail
  refine (live_c _).mono ?_
  rintro e w3 ⟨rfl, hb⟩
  replace KK := Aside0.mk (KK.out.trans (hb.mono KK.out.size))
  replace S3 := Aside0.mk ((hb.block _ (blk_lt S3.out)).trans S3.out)
  replace N7 := Aside0.mk ((hb.block _ (blk_lt N7.out)).trans N7.out)
  replace OW := Aside0.mk (own_below OW.out hb)
  clear hb
  by_cases hok : ne = 0 ∧ ck = 0
  case neg =>
    by_cases h1 : ne = 0
    case neg =>
      have hb1 : (ne != 0) = true := by simpa using h1
      clear hok h1
      go_wp2_with fail
      refine (live_c _).mono ?_
      rintro e w4 ⟨rfl, hb⟩
      replace KK := Aside0.mk (KK.out.trans (hb.mono KK.out.size))
      clear hb
      go_wp2_with fail
      go_ret
      exact ⟨by simp, KK.out⟩
    have hb1 : (ne != 0) = false := by simpa using h1
    have hb2 : (ck != 0) = true := by simpa using (fun h2 => hok ⟨h1, h2⟩)
    clear hok h1
    go_wp2_with fail
    refine (live_c _).mono ?_
    rintro e w4 ⟨rfl, hb⟩
    replace KK := Aside0.mk (KK.out.trans (hb.mono KK.out.size))
    clear hb
    go_wp2_with fail
    go_ret
    exact ⟨by simp, KK.out⟩
  obtain ⟨hne, hck⟩ := hok
  obtain ⟨e0, e1, e2, e3, e4, e5, hs0, hs1⟩ := next_ok HN.out hne
  subst hne hck
  have hOW : supR 0 a0 a1 a2 a3 a4 a5 = supB a0 a1 a2 a3 a4 a5 := if_pos rfl
  rw [hOW] at OW ⊢
  rw [supB_length]
  have HS0 := Aside0.mk hs0
  have HS1 := Aside0.mk hs1
  have EE := Aside0.mk (And.intro e0 (And.intro e1 (And.intro e2 (And.intro e3 (And.intro e4 e5)))))
  clear e0 e1 e2 e3 e4 e5 hs0 hs1 HN hOW
  obtain ⟨s0, s1, s2, s3, s4, s5⟩ := sup_cells N7.out
  go_wp2_with fail
  clear s0 s1 s2 s3 s4 s5
  refine (sbytes_ok _ n0 n1 n2 n3 n4 n5 HS1.out).mono ?_
  rintro e w4 ⟨Y, cy, rfl, hY, hb⟩
  have hd := below_drew hb
  replace KK := Aside0.mk (KK.out.trans (hd.mono KK.out.size))
  replace S3 := Aside0.mk ((hd.block _ (blk_lt S3.out)).trans S3.out)
  replace N7 := Aside0.mk ((hd.block _ (blk_lt N7.out)).trans N7.out)
  replace OW := Aside0.mk (own_below OW.out hd)
  have NX := Aside0.mk (own_below hY (below_drew (Below.refl w4.heap.size w4)))
  clear hb hd hY
  obtain ⟨m0, m1, m2, m3, m4, m5⟩ := sup_cells S3.out
  obtain ⟨n0_, n1_, n2_, n3_, n4_, n5_⟩ := sup_cells N7.out
  have hsl : (slotI n0 == slotI a0) = false := by
    have := slot_next (chk_ok HS0.out).2.1
    rw [EE.out.1]
    simpa using this
  have hle : decide (n0 ≤ a0) = false := decide_eq_false (by have := EE.out.1; omega)
  go_wp2_with fail
  go_region_held3 (fun w' => w'.cell? ⟨w.heap.size, 0, none⟩ = some (.int .i64 a0) ∧ w'.cell? ⟨w.heap.size, 1, none⟩ = some (.int .i64 a1) ∧ w'.cell? ⟨w.heap.size, 2, none⟩ = some (.int .i64 a2) ∧ w'.cell? ⟨w.heap.size, 3, none⟩ = some (.int .i64 a3) ∧ w'.cell? ⟨w.heap.size, 4, none⟩ = some (.int .i64 a4) ∧ w'.cell? ⟨w.heap.size, 5, none⟩ = some (.int .i64 a5) ∧ w'.cell? ⟨g7, 0, none⟩ = some (.int .i64 n0) ∧ w'.cell? ⟨g7, 1, none⟩ = some (.int .i64 n1) ∧ w'.cell? ⟨g7, 2, none⟩ = some (.int .i64 n2) ∧ w'.cell? ⟨g7, 3, none⟩ = some (.int .i64 n3) ∧ w'.cell? ⟨g7, 4, none⟩ = some (.int .i64 n4) ∧ w'.cell? ⟨g7, 5, none⟩ = some (.int .i64 n5)) (go_keep)
    (first
      | (go_at_call 15; refine (slot_c _ n0 n1 n2 n3 n4 n5).mono ?_; rintro e wn ⟨rfl, hb⟩; replace KK := Aside0.mk (KK.out.trans (hb.mono KK.out.size)); replace S3 := Aside0.mk ((hb.block _ (blk_lt S3.out)).trans S3.out); replace N7 := Aside0.mk ((hb.block _ (blk_lt N7.out)).trans N7.out); replace OW := Aside0.mk (own_below OW.out hb); replace NX := Aside0.mk (own_below NX.out hb); clear hb m0 m1 m2 m3 m4 m5 n0_ n1_ n2_ n3_ n4_ n5_; obtain ⟨m0, m1, m2, m3, m4, m5⟩ := sup_cells S3.out; obtain ⟨n0_, n1_, n2_, n3_, n4_, n5_⟩ := sup_cells N7.out)
      | (go_at_call 15; refine (slot_c _ a0 a1 a2 a3 a4 a5).mono ?_; rintro e wn ⟨rfl, hb⟩; replace KK := Aside0.mk (KK.out.trans (hb.mono KK.out.size)); replace S3 := Aside0.mk ((hb.block _ (blk_lt S3.out)).trans S3.out); replace N7 := Aside0.mk ((hb.block _ (blk_lt N7.out)).trans N7.out); replace OW := Aside0.mk (own_below OW.out hb); replace NX := Aside0.mk (own_below NX.out hb); clear hb m0 m1 m2 m3 m4 m5 n0_ n1_ n2_ n3_ n4_ n5_; obtain ⟨m0, m1, m2, m3, m4, m5⟩ := sup_cells S3.out; obtain ⟨n0_, n1_, n2_, n3_, n4_, n5_⟩ := sup_cells N7.out))
  go_wp2_with fail
  clear m0 m1 m2 m3 m4 m5 n0_ n1_ n2_ n3_ n4_ n5_ hsl hle
  replace OW := Aside0.mk (own_lower OW.out (Nat.zero_le _))
  replace NX := Aside0.mk (own_lower NX.out (Nat.zero_le _))
  obtain ⟨gN, _, hYe, _⟩ := NX.out.blk (by rw [supB_length]; decide)
  subst hYe
  obtain ⟨gB, hgB⟩ : ∃ g, g = wn.heap.size := ⟨_, rfl⟩
  have hbn := (Below.refl wn.heap.size wn).alloc (Nat.le_refl _) (.cells #[.bool false, .bool true] 4)
  replace KK := Aside0.mk (KK.out.trans (hbn.mono KK.out.size))
  replace S3 := Aside0.mk ((hbn.block _ (blk_lt S3.out)).trans S3.out)
  replace N7 := Aside0.mk ((hbn.block _ (blk_lt N7.out)).trans N7.out)
  replace OW := Aside0.mk (own_below OW.out hbn)
  replace NX := Aside0.mk (own_below NX.out hbn)
  have GB := Aside0.mk (show (wn.alloc (.cells #[.bool false, .bool true] 4)).heap[gB]? = some (.cells #[.bool false, .bool true] 4 (0, 0)) from by rw [hgB]; exact heap_new wn _)
  rw [← hgB]
  clear hgB hbn
  go_loopg [73] 2 (fun q v73 w' => ∃ (j : Nat), v73 = .int .i64 (j : Int) ∧ Aside0 (j + q = 2) ∧ Aside0 (w'.heap[w.heap.size]? = some (.cells (supCs a0 a1 a2 a3 a4 a5) 25 (0, 0))) ∧ Aside0 (w'.heap[g7]? = some (.cells (supCs n0 n1 n2 n3 n4 n5) 25 (0, 0))) ∧ Aside0 (w'.heap[gB]? = some (.cells #[.bool false, .bool true] 4 (0, 0))) ∧ Aside0 (Own w' 0 X cx (supB a0 a1 a2 a3 a4 a5)) ∧ Aside0 (Own w' 0 (some ⟨gN, 0, none⟩) cy (supB n0 n1 n2 n3 n4 n5)) ∧ Aside0 (Below w.heap.size w w'))
  case atStart => exact ⟨0, rfl, ⟨rfl⟩, S3, N7, GB, OW, NX, KK⟩
  case round =>
    clear S3 N7 GB OW NX KK
    obtain ⟨j, rfl, HJ, S3, N7, GB, OW, NX, KK⟩ := hrel
    by_cases hlt : j < 2
    case pos =>
      obtain ⟨gout, hgout⟩ : ∃ x, x = gk := ⟨_, rfl⟩
      subst hgout
      have HK := Aside0.mk HJ.out
      have RL := Aside0.mk (show w.heap.size < wr.heap.size ∧ g7 < wr.heap.size ∧ gB < wr.heap.size ∧ (∀ g, X = some ⟨g, 0, none⟩ → g < wr.heap.size) ∧ gN < wr.heap.size from ⟨blk_lt S3.out, blk_lt N7.out, blk_lt GB.out, fun g hg => (own_lt OW.out g (by rw [supB_length]; decide) hg).2, (own_lt NX.out gN (by rw [supB_length]; decide) rfl).2⟩)
      obtain rfl | rfl : j = 0 ∨ j = 1 := by omega
      · have hcell : wr.cell? ⟨gB, 0, none⟩ = some (.bool false) := by rw [blk_cell GB.out]; rfl
        clear hlt HJ
        go_wp2_with (first | (at_make; (refine Kd.R_make (Kd.int .u8) (w0 := wr) wr.heap.size 5 rfl rfl 34 (.const (.int .i64 256)) (.const (.int .i64 256)) rfl 256 rfl rfl Try.underlying34 (.int .u8 0) 1 info5 rfl (by decide) (by decide) 0 (ok := fun _ => True) (okp := fun _ => False) rfl (fun _ h => h.elim) trivial (by decide) (by decide) (Below.refl _ _) (Nat.le_refl _) ?_); intro v1 wo ho hbo hg hat; replace KK := Aside0.mk (KK.out.trans (hbo.mono KK.out.size)); replace S3 := Aside0.mk ((hbo.block _ (blk_lt S3.out)).trans S3.out); replace N7 := Aside0.mk ((hbo.block _ (blk_lt N7.out)).trans N7.out); replace GB := Aside0.mk ((hbo.block _ (blk_lt GB.out)).trans GB.out); replace OW := Aside0.mk (own_below OW.out hbo); replace NX := Aside0.mk (own_below NX.out hbo); obtain ⟨Ao, co, hv1, hO⟩ := own_of ho; subst hv1; have ZR := Aside0.mk hO; have SZ := Aside0.mk hbo.size; clear ho hbo hg hat hO hcell))
        obtain ⟨o, ho_⟩ : ∃ o : List Int, o = List.replicate (256 : Int).toNat 0 := ⟨_, rfl⟩
        rw [← ho_] at ZR
        have LO := Aside0.mk (show o.length = 256 by rw [ho_]; exact List.length_replicate)
        have OTH := Aside0.mk (show Other a0 a1 a2 a3 a4 a5 o from .inl (by rw [ho_]; rfl))
        clear ho_
        obtain ⟨wq, hwq⟩ : ∃ w', w' = wr := ⟨_, rfl⟩
        subst hwq
        have hz : 0 < o.length := by rw [LO.out]; decide
        obtain ⟨gO, hgO1, hgO2, hgO3⟩ : ∃ gO, Ao = some ⟨gO, 0, none⟩ ∧ wq.heap.size ≤ gO ∧ True := by
          obtain ⟨g, _, q1, q2, _⟩ := ZR.out.blk hz
          exact ⟨g, q1, q2, trivial⟩
        subst hgO1
        have NE := Aside0.mk (show w.heap.size ≠ gO ∧ g7 ≠ gO ∧ gB ≠ gO ∧ (∀ g, X = some ⟨g, 0, none⟩ → g ≠ gO) ∧ gN ≠ gO ∧ w.heap.size ≤ gO from by
          have q1 := RL.out
          refine ⟨by omega, by omega, by omega, fun g hg => ?_, by omega, by omega⟩
          have := q1.2.2.2.1 g hg
          omega)
        clear hgO2 hgO3 hz
        go_loopg [99] 256 (fun q v99 w' => ∃ (k : Nat), v99 = .int .i64 (k : Int) ∧ Aside0 (k + q = 256) ∧ Aside0 (w'.heap[w.heap.size]? = some (.cells (supCs a0 a1 a2 a3 a4 a5) 25 (0, 0))) ∧ Aside0 (w'.heap[g7]? = some (.cells (supCs n0 n1 n2 n3 n4 n5) 25 (0, 0))) ∧ Aside0 (w'.heap[gB]? = some (.cells #[.bool false, .bool true] 4 (0, 0))) ∧ Aside0 (Own w' 0 X cx (supB a0 a1 a2 a3 a4 a5)) ∧ Aside0 (Own w' 0 (some ⟨gN, 0, none⟩) cy (supB n0 n1 n2 n3 n4 n5)) ∧ Aside0 (Below w.heap.size w w') ∧ Aside0 (Own w' wq.heap.size (some ⟨gO, 0, none⟩) co (torn o (supB n0 n1 n2 n3 n4 n5) (tsP pk) k)))
        case atStart => exact ⟨0, rfl, ⟨rfl⟩, S3, N7, GB, OW, NX, KK, ⟨by rw [torn_zero]; exact ZR.out⟩⟩
        case round =>
          clear S3 N7 GB OW NX KK ZR
          obtain ⟨k, rfl, HJ2, S3, N7, GB, OW, NX, KK, ZR⟩ := hrel
          obtain ⟨wz, hwz⟩ : ∃ w', w' = wr := ⟨_, rfl⟩
          by_cases hlk : k < 256
          case pos =>
            have hgd : decide (k < 256) = true := decide_eq_true hlk
            have hki : (k : Int) < 256 := by omega
            have HN2 := Aside0.mk (step_q2 HJ2.out hlk)
            by_cases ht : Go.bits .and .u8 (pk / 2 ^ (k / 64)) 1 = 1
            case pos =>
              have hp : tsP pk k = true := decide_eq_true ht
              obtain ⟨hc1, _⟩ := own_cell NX.out (k := k) (by rw [supB_length]; exact hlk)
              obtain ⟨hc2, hf2⟩ := own_cell ZR.out (k := k) (by rw [torn_length, LO.out]; exact hlk)
              have Z2 := Aside0.mk (own_set ZR.out (i := k) (by rw [torn_length, LO.out]; exact hlk) ((supB n0 n1 n2 n3 n4 n5).getD k 0))
              rw [← torn_yes o (supB n0 n1 n2 n3 n4 n5) (tsP pk) k hp (by rw [LO.out]; exact hlk)] at Z2
              have S4 := Aside0.mk ((Below.heap_setCell wr ⟨gO, k, none⟩ (.int .u8 ((supB n0 n1 n2 n3 n4 n5).getD k 0)) w.heap.size NE.out.1).trans S3.out)
              have N8 := Aside0.mk ((Below.heap_setCell wr ⟨gO, k, none⟩ (.int .u8 ((supB n0 n1 n2 n3 n4 n5).getD k 0)) g7 NE.out.2.1).trans N7.out)
              have GC := Aside0.mk ((Below.heap_setCell wr ⟨gO, k, none⟩ (.int .u8 ((supB n0 n1 n2 n3 n4 n5).getD k 0)) gB NE.out.2.2.1).trans GB.out)
              have OX := Aside0.mk (own_kept (w1 := wr.setCell ⟨gO, k, none⟩ (.int .u8 ((supB n0 n1 n2 n3 n4 n5).getD k 0))) OW.out (fun g _ h2 => Below.heap_setCell wr ⟨gO, k, none⟩ _ g (NE.out.2.2.2.1 g h2)))
              have NY := Aside0.mk (own_kept (w1 := wr.setCell ⟨gO, k, none⟩ (.int .u8 ((supB n0 n1 n2 n3 n4 n5).getD k 0))) NX.out (fun g _ h2 => Below.heap_setCell wr ⟨gO, k, none⟩ _ g (by injection h2 with h2; injection h2 with h2; rw [← h2]; exact NE.out.2.2.2.2.1)))
              have KL := Aside0.mk (KK.out.setCell (p := ⟨gO, k, none⟩) NE.out.2.2.2.2.2 (.int .u8 ((supB n0 n1 n2 n3 n4 n5).getD k 0)))
              clear hp
              go_wp2_with fail
              go_roundg (gk - 1)
              case measure => exact mea2 HJ2.out hlk
              case rel => exact ⟨k + 1, by go_num, HN2, S4, N8, GC, OX, NY, KL, Z2⟩
            have Z2 := Aside0.mk (show Own wr wq.heap.size (some ⟨gO, 0, none⟩) co (torn o (supB n0 n1 n2 n3 n4 n5) (tsP pk) (k + 1)) from by rw [torn_no o (supB n0 n1 n2 n3 n4 n5) (tsP pk) k (decide_eq_false ht)]; exact ZR.out)
            go_wp2_with fail
            go_roundg (gk - 1)
            case measure => exact mea2 HJ2.out hlk
            case rel => exact ⟨k + 1, by go_num, HN2, S3, N7, GB, OW, NX, KK, Z2⟩
          have hke : k = 256 := by have := HJ2.out; omega
          subst hke
          clear hlk hwz HJ2
          obtain ⟨fo, hfo⟩ : ∃ x, x = torn o (supB n0 n1 n2 n3 n4 n5) (tsP pk) 256 := ⟨_, rfl⟩
          rw [← hfo] at ZR
          have hfa := torn_all o (supB n0 n1 n2 n3 n4 n5) (tsP pk) LO.out (supB_length _ _ _ _ _ _) (fun i h1 h2 => other_far OTH.out i h1 h2) (fun i h1 h2 => supB_far _ _ _ _ _ _ i h1 h2) (tsP_low pk)
          rw [← hfo] at hfa
          by_cases hP : tsP pk 0 = true
          case pos =>
            rw [if_pos hP] at hfa
            have TC := Aside0.mk (torn_calls (fo := fo) HS0.out HS1.out EE.out.1 (.inl ⟨hfa, rfl⟩))
            clear hfa hfo
            obtain ⟨s0, s1, s2, s3, s4, s5⟩ := sup_cells S3.out
            go_wp2_with fail
            refine (slot_c _ a0 a1 a2 a3 a4 a5).mono ?_
            rintro e wu ⟨rfl, hb⟩
            replace KK := Aside0.mk (KK.out.trans (hb.mono KK.out.size))
            replace S3 := Aside0.mk ((hb.block _ (blk_lt S3.out)).trans S3.out)
            replace N7 := Aside0.mk ((hb.block _ (blk_lt N7.out)).trans N7.out)
            replace GB := Aside0.mk ((hb.block _ (blk_lt GB.out)).trans GB.out)
            replace OW := Aside0.mk (own_below OW.out hb)
            replace NX := Aside0.mk (own_below NX.out hb)
            replace ZR := Aside0.mk (own_below ZR.out hb)
            clear hb s0 s1 s2 s3 s4 s5
            by_cases hs : slotI a0 = 1
            case pos =>
              have hsb : (slotI a0 == 1) = true := by simpa using hs
              have TD := Aside0.mk (TC.out.2 hs OW.out.C OW.out.cap ZR.out.C ZR.out.cap)
              clear hs
              go_wp2_with fail
              refine (TD.out).mono ?_
              rintro e wv ⟨rfl, hb⟩
              have hbn := hb.alloc hb.size (.cells (supCs n0 n1 n2 n3 n4 n5) 25)
              replace KK := Aside0.mk (KK.out.trans (hbn.mono KK.out.size))
              replace S3 := Aside0.mk ((hbn.block _ (blk_lt S3.out)).trans S3.out)
              replace N7 := Aside0.mk ((hbn.block _ (blk_lt N7.out)).trans N7.out)
              replace GB := Aside0.mk ((hbn.block _ (blk_lt GB.out)).trans GB.out)
              replace OW := Aside0.mk (own_below OW.out hbn)
              replace NX := Aside0.mk (own_below NX.out hbn)
              have RR := Aside0.mk (heap_new wv (.cells (supCs n0 n1 n2 n3 n4 n5) 25))
              clear hb hbn
              obtain ⟨s0, s1, s2, s3, s4, s5⟩ := sup_cells S3.out
              obtain ⟨m0, m1, m2, m3, m4, m5⟩ := sup_cells N7.out
              obtain ⟨q0, q1, q2, q3, q4, q5⟩ := sup_cells RR.out
              have hna : (n0 == a0) = false := by simpa using (show n0 ≠ a0 by have := EE.out.1; omega)
              go_wp2_with fail
              all_goals
                go_roundg (gout - 1)
                case measure => have := HK.out; omega
                case rel => exact ⟨1, by go_num, ⟨by have := HK.out; omega⟩, S3, N7, GB, OW, NX, KK⟩
            have hsb : (slotI a0 == 1) = false := by simpa using hs
            have TD := Aside0.mk (TC.out.1 hs OW.out.C OW.out.cap ZR.out.C ZR.out.cap)
            clear hs
            go_wp2_with fail
            refine (TD.out).mono ?_
            rintro e wv ⟨rfl, hb⟩
            have hbn := hb.alloc hb.size (.cells (supCs n0 n1 n2 n3 n4 n5) 25)
            replace KK := Aside0.mk (KK.out.trans (hbn.mono KK.out.size))
            replace S3 := Aside0.mk ((hbn.block _ (blk_lt S3.out)).trans S3.out)
            replace N7 := Aside0.mk ((hbn.block _ (blk_lt N7.out)).trans N7.out)
            replace GB := Aside0.mk ((hbn.block _ (blk_lt GB.out)).trans GB.out)
            replace OW := Aside0.mk (own_below OW.out hbn)
            replace NX := Aside0.mk (own_below NX.out hbn)
            have RR := Aside0.mk (heap_new wv (.cells (supCs n0 n1 n2 n3 n4 n5) 25))
            clear hb hbn
            obtain ⟨s0, s1, s2, s3, s4, s5⟩ := sup_cells S3.out
            obtain ⟨m0, m1, m2, m3, m4, m5⟩ := sup_cells N7.out
            obtain ⟨q0, q1, q2, q3, q4, q5⟩ := sup_cells RR.out
            have hna : (n0 == a0) = false := by simpa using (show n0 ≠ a0 by have := EE.out.1; omega)
            go_wp2_with fail
            all_goals
              go_roundg (gout - 1)
              case measure => have := HK.out; omega
              case rel => exact ⟨1, by go_num, ⟨by have := HK.out; omega⟩, S3, N7, GB, OW, NX, KK⟩
          have h15 := tsP_no PK.out hP
          rw [if_neg hP] at hfa
          have TC := Aside0.mk (torn_calls (fo := fo) HS0.out HS1.out EE.out.1 (.inr ⟨by rw [hfa]; exact OTH.out, rfl⟩))
          clear hfa hfo
          obtain ⟨s0, s1, s2, s3, s4, s5⟩ := sup_cells S3.out
          go_wp2_with fail
          refine (slot_c _ a0 a1 a2 a3 a4 a5).mono ?_
          rintro e wu ⟨rfl, hb⟩
          replace KK := Aside0.mk (KK.out.trans (hb.mono KK.out.size))
          replace S3 := Aside0.mk ((hb.block _ (blk_lt S3.out)).trans S3.out)
          replace N7 := Aside0.mk ((hb.block _ (blk_lt N7.out)).trans N7.out)
          replace GB := Aside0.mk ((hb.block _ (blk_lt GB.out)).trans GB.out)
          replace OW := Aside0.mk (own_below OW.out hb)
          replace NX := Aside0.mk (own_below NX.out hb)
          replace ZR := Aside0.mk (own_below ZR.out hb)
          clear hb s0 s1 s2 s3 s4 s5
          by_cases hs : slotI a0 = 1
          case pos =>
            have hsb : (slotI a0 == 1) = true := by simpa using hs
            have TD := Aside0.mk (TC.out.2 hs OW.out.C OW.out.cap ZR.out.C ZR.out.cap)
            clear hs
            go_wp2_with fail
            refine (TD.out).mono ?_
            rintro e wv ⟨rfl, hb⟩
            have hbn := hb.alloc hb.size (.cells (supCs a0 a1 a2 a3 a4 a5) 25)
            replace KK := Aside0.mk (KK.out.trans (hbn.mono KK.out.size))
            replace S3 := Aside0.mk ((hbn.block _ (blk_lt S3.out)).trans S3.out)
            replace N7 := Aside0.mk ((hbn.block _ (blk_lt N7.out)).trans N7.out)
            replace GB := Aside0.mk ((hbn.block _ (blk_lt GB.out)).trans GB.out)
            replace OW := Aside0.mk (own_below OW.out hbn)
            replace NX := Aside0.mk (own_below NX.out hbn)
            have RR := Aside0.mk (heap_new wv (.cells (supCs a0 a1 a2 a3 a4 a5) 25))
            clear hb hbn
            obtain ⟨s0, s1, s2, s3, s4, s5⟩ := sup_cells S3.out
            obtain ⟨m0, m1, m2, m3, m4, m5⟩ := sup_cells N7.out
            obtain ⟨q0, q1, q2, q3, q4, q5⟩ := sup_cells RR.out
            go_wp2_with fail
            all_goals
              go_roundg (gout - 1)
              case measure => have := HK.out; omega
              case rel => exact ⟨1, by go_num, ⟨by have := HK.out; omega⟩, S3, N7, GB, OW, NX, KK⟩
          have hsb : (slotI a0 == 1) = false := by simpa using hs
          have TD := Aside0.mk (TC.out.1 hs OW.out.C OW.out.cap ZR.out.C ZR.out.cap)
          clear hs
          go_wp2_with fail
          refine (TD.out).mono ?_
          rintro e wv ⟨rfl, hb⟩
          have hbn := hb.alloc hb.size (.cells (supCs a0 a1 a2 a3 a4 a5) 25)
          replace KK := Aside0.mk (KK.out.trans (hbn.mono KK.out.size))
          replace S3 := Aside0.mk ((hbn.block _ (blk_lt S3.out)).trans S3.out)
          replace N7 := Aside0.mk ((hbn.block _ (blk_lt N7.out)).trans N7.out)
          replace GB := Aside0.mk ((hbn.block _ (blk_lt GB.out)).trans GB.out)
          replace OW := Aside0.mk (own_below OW.out hbn)
          replace NX := Aside0.mk (own_below NX.out hbn)
          have RR := Aside0.mk (heap_new wv (.cells (supCs a0 a1 a2 a3 a4 a5) 25))
          clear hb hbn
          obtain ⟨s0, s1, s2, s3, s4, s5⟩ := sup_cells S3.out
          obtain ⟨m0, m1, m2, m3, m4, m5⟩ := sup_cells N7.out
          obtain ⟨q0, q1, q2, q3, q4, q5⟩ := sup_cells RR.out
          go_wp2_with fail
          all_goals
            go_roundg (gout - 1)
            case measure => have := HK.out; omega
            case rel => exact ⟨1, by go_num, ⟨by have := HK.out; omega⟩, S3, N7, GB, OW, NX, KK⟩
      · have hcell : wr.cell? ⟨gB, 1, none⟩ = some (.bool true) := by rw [blk_cell GB.out]; rfl
        clear hlt HJ
        by_cases h1 : 1 < a0
        case neg =>
          have hg1 : decide (a0 > 1) = false := decide_eq_false h1
          have hg2 : decide (1 < a0) = false := decide_eq_false h1
          clear h1
          go_wp2_with (first | (at_make; (refine Kd.R_make (Kd.int .u8) (w0 := wr) wr.heap.size 5 rfl rfl 34 (.const (.int .i64 256)) (.const (.int .i64 256)) rfl 256 rfl rfl Try.underlying34 (.int .u8 0) 1 info5 rfl (by decide) (by decide) 0 (ok := fun _ => True) (okp := fun _ => False) rfl (fun _ h => h.elim) trivial (by decide) (by decide) (Below.refl _ _) (Nat.le_refl _) ?_); intro v1 wo ho hbo hg hat; replace KK := Aside0.mk (KK.out.trans (hbo.mono KK.out.size)); replace S3 := Aside0.mk ((hbo.block _ (blk_lt S3.out)).trans S3.out); replace N7 := Aside0.mk ((hbo.block _ (blk_lt N7.out)).trans N7.out); replace GB := Aside0.mk ((hbo.block _ (blk_lt GB.out)).trans GB.out); replace OW := Aside0.mk (own_below OW.out hbo); replace NX := Aside0.mk (own_below NX.out hbo); obtain ⟨Ao, co, hv1, hO⟩ := own_of ho; subst hv1; have ZR := Aside0.mk hO; have SZ := Aside0.mk hbo.size; clear ho hbo hg hat hO hcell; obtain ⟨s0, s1, s2, s3, s4, s5⟩ := sup_cells S3.out))
          clear hg1 hg2 s0 s1 s2 s3 s4 s5
          obtain ⟨o, ho_⟩ : ∃ o : List Int, o = List.replicate (256 : Int).toNat 0 := ⟨_, rfl⟩
          rw [← ho_] at ZR
          have LO := Aside0.mk (show o.length = 256 by rw [ho_]; exact List.length_replicate)
          have OTH := Aside0.mk (show Other a0 a1 a2 a3 a4 a5 o from .inl (by rw [ho_]; rfl))
          clear ho_
          obtain ⟨wq, hwq⟩ : ∃ w', w' = wr := ⟨_, rfl⟩
          subst hwq
          have hz : 0 < o.length := by rw [LO.out]; decide
          obtain ⟨gO, hgO1, hgO2, hgO3⟩ : ∃ gO, Ao = some ⟨gO, 0, none⟩ ∧ wq.heap.size ≤ gO ∧ True := by
            obtain ⟨g, _, q1, q2, _⟩ := ZR.out.blk hz
            exact ⟨g, q1, q2, trivial⟩
          subst hgO1
          have NE := Aside0.mk (show w.heap.size ≠ gO ∧ g7 ≠ gO ∧ gB ≠ gO ∧ (∀ g, X = some ⟨g, 0, none⟩ → g ≠ gO) ∧ gN ≠ gO ∧ w.heap.size ≤ gO from by
            have q1 := RL.out
            refine ⟨by omega, by omega, by omega, fun g hg => ?_, by omega, by omega⟩
            have := q1.2.2.2.1 g hg
            omega)
          clear hgO2 hgO3 hz
          go_loopg [99] 256 (fun q v99 w' => ∃ (k : Nat), v99 = .int .i64 (k : Int) ∧ Aside0 (k + q = 256) ∧ Aside0 (w'.heap[w.heap.size]? = some (.cells (supCs a0 a1 a2 a3 a4 a5) 25 (0, 0))) ∧ Aside0 (w'.heap[g7]? = some (.cells (supCs n0 n1 n2 n3 n4 n5) 25 (0, 0))) ∧ Aside0 (w'.heap[gB]? = some (.cells #[.bool false, .bool true] 4 (0, 0))) ∧ Aside0 (Own w' 0 X cx (supB a0 a1 a2 a3 a4 a5)) ∧ Aside0 (Own w' 0 (some ⟨gN, 0, none⟩) cy (supB n0 n1 n2 n3 n4 n5)) ∧ Aside0 (Below w.heap.size w w') ∧ Aside0 (Own w' wq.heap.size (some ⟨gO, 0, none⟩) co (torn o (supB n0 n1 n2 n3 n4 n5) (tsP pk) k)))
          case atStart => exact ⟨0, rfl, ⟨rfl⟩, S3, N7, GB, OW, NX, KK, ⟨by rw [torn_zero]; exact ZR.out⟩⟩
          case round =>
            clear S3 N7 GB OW NX KK ZR
            obtain ⟨k, rfl, HJ2, S3, N7, GB, OW, NX, KK, ZR⟩ := hrel
            obtain ⟨wz, hwz⟩ : ∃ w', w' = wr := ⟨_, rfl⟩
            by_cases hlk : k < 256
            case pos =>
              have hgd : decide (k < 256) = true := decide_eq_true hlk
              have hki : (k : Int) < 256 := by omega
              have HN2 := Aside0.mk (step_q2 HJ2.out hlk)
              by_cases ht : Go.bits .and .u8 (pk / 2 ^ (k / 64)) 1 = 1
              case pos =>
                have hp : tsP pk k = true := decide_eq_true ht
                obtain ⟨hc1, _⟩ := own_cell NX.out (k := k) (by rw [supB_length]; exact hlk)
                obtain ⟨hc2, hf2⟩ := own_cell ZR.out (k := k) (by rw [torn_length, LO.out]; exact hlk)
                have Z2 := Aside0.mk (own_set ZR.out (i := k) (by rw [torn_length, LO.out]; exact hlk) ((supB n0 n1 n2 n3 n4 n5).getD k 0))
                rw [← torn_yes o (supB n0 n1 n2 n3 n4 n5) (tsP pk) k hp (by rw [LO.out]; exact hlk)] at Z2
                have S4 := Aside0.mk ((Below.heap_setCell wr ⟨gO, k, none⟩ (.int .u8 ((supB n0 n1 n2 n3 n4 n5).getD k 0)) w.heap.size NE.out.1).trans S3.out)
                have N8 := Aside0.mk ((Below.heap_setCell wr ⟨gO, k, none⟩ (.int .u8 ((supB n0 n1 n2 n3 n4 n5).getD k 0)) g7 NE.out.2.1).trans N7.out)
                have GC := Aside0.mk ((Below.heap_setCell wr ⟨gO, k, none⟩ (.int .u8 ((supB n0 n1 n2 n3 n4 n5).getD k 0)) gB NE.out.2.2.1).trans GB.out)
                have OX := Aside0.mk (own_kept (w1 := wr.setCell ⟨gO, k, none⟩ (.int .u8 ((supB n0 n1 n2 n3 n4 n5).getD k 0))) OW.out (fun g _ h2 => Below.heap_setCell wr ⟨gO, k, none⟩ _ g (NE.out.2.2.2.1 g h2)))
                have NY := Aside0.mk (own_kept (w1 := wr.setCell ⟨gO, k, none⟩ (.int .u8 ((supB n0 n1 n2 n3 n4 n5).getD k 0))) NX.out (fun g _ h2 => Below.heap_setCell wr ⟨gO, k, none⟩ _ g (by injection h2 with h2; injection h2 with h2; rw [← h2]; exact NE.out.2.2.2.2.1)))
                have KL := Aside0.mk (KK.out.setCell (p := ⟨gO, k, none⟩) NE.out.2.2.2.2.2 (.int .u8 ((supB n0 n1 n2 n3 n4 n5).getD k 0)))
                clear hp
                go_wp2_with fail
                go_roundg (gk - 1)
                case measure => exact mea2 HJ2.out hlk
                case rel => exact ⟨k + 1, by go_num, HN2, S4, N8, GC, OX, NY, KL, Z2⟩
              have Z2 := Aside0.mk (show Own wr wq.heap.size (some ⟨gO, 0, none⟩) co (torn o (supB n0 n1 n2 n3 n4 n5) (tsP pk) (k + 1)) from by rw [torn_no o (supB n0 n1 n2 n3 n4 n5) (tsP pk) k (decide_eq_false ht)]; exact ZR.out)
              go_wp2_with fail
              go_roundg (gk - 1)
              case measure => exact mea2 HJ2.out hlk
              case rel => exact ⟨k + 1, by go_num, HN2, S3, N7, GB, OW, NX, KK, Z2⟩
            have hke : k = 256 := by have := HJ2.out; omega
            subst hke
            clear hlk hwz HJ2
            obtain ⟨fo, hfo⟩ : ∃ x, x = torn o (supB n0 n1 n2 n3 n4 n5) (tsP pk) 256 := ⟨_, rfl⟩
            rw [← hfo] at ZR
            have hfa := torn_all o (supB n0 n1 n2 n3 n4 n5) (tsP pk) LO.out (supB_length _ _ _ _ _ _) (fun i h1 h2 => other_far OTH.out i h1 h2) (fun i h1 h2 => supB_far _ _ _ _ _ _ i h1 h2) (tsP_low pk)
            rw [← hfo] at hfa
            by_cases hP : tsP pk 0 = true
            case pos =>
              rw [if_pos hP] at hfa
              have TC := Aside0.mk (torn_calls (fo := fo) HS0.out HS1.out EE.out.1 (.inl ⟨hfa, rfl⟩))
              clear hfa hfo
              obtain ⟨s0, s1, s2, s3, s4, s5⟩ := sup_cells S3.out
              go_wp2_with fail
              refine (slot_c _ a0 a1 a2 a3 a4 a5).mono ?_
              rintro e wu ⟨rfl, hb⟩
              replace KK := Aside0.mk (KK.out.trans (hb.mono KK.out.size))
              replace S3 := Aside0.mk ((hb.block _ (blk_lt S3.out)).trans S3.out)
              replace N7 := Aside0.mk ((hb.block _ (blk_lt N7.out)).trans N7.out)
              replace GB := Aside0.mk ((hb.block _ (blk_lt GB.out)).trans GB.out)
              replace OW := Aside0.mk (own_below OW.out hb)
              replace NX := Aside0.mk (own_below NX.out hb)
              replace ZR := Aside0.mk (own_below ZR.out hb)
              clear hb s0 s1 s2 s3 s4 s5
              by_cases hs : slotI a0 = 1
              case pos =>
                have hsb : (slotI a0 == 1) = true := by simpa using hs
                have TD := Aside0.mk (TC.out.2 hs OW.out.C OW.out.cap ZR.out.C ZR.out.cap)
                clear hs
                go_wp2_with fail
                refine (TD.out).mono ?_
                rintro e wv ⟨rfl, hb⟩
                have hbn := hb.alloc hb.size (.cells (supCs n0 n1 n2 n3 n4 n5) 25)
                replace KK := Aside0.mk (KK.out.trans (hbn.mono KK.out.size))
                replace S3 := Aside0.mk ((hbn.block _ (blk_lt S3.out)).trans S3.out)
                replace N7 := Aside0.mk ((hbn.block _ (blk_lt N7.out)).trans N7.out)
                replace GB := Aside0.mk ((hbn.block _ (blk_lt GB.out)).trans GB.out)
                replace OW := Aside0.mk (own_below OW.out hbn)
                replace NX := Aside0.mk (own_below NX.out hbn)
                have RR := Aside0.mk (heap_new wv (.cells (supCs n0 n1 n2 n3 n4 n5) 25))
                clear hb hbn
                obtain ⟨s0, s1, s2, s3, s4, s5⟩ := sup_cells S3.out
                obtain ⟨m0, m1, m2, m3, m4, m5⟩ := sup_cells N7.out
                obtain ⟨q0, q1, q2, q3, q4, q5⟩ := sup_cells RR.out
                have hna : (n0 == a0) = false := by simpa using (show n0 ≠ a0 by have := EE.out.1; omega)
                go_wp2_with fail
                all_goals
                  go_roundg (gout - 1)
                  case measure => have := HK.out; omega
                  case rel => exact ⟨2, by go_num, ⟨by have := HK.out; omega⟩, S3, N7, GB, OW, NX, KK⟩
              have hsb : (slotI a0 == 1) = false := by simpa using hs
              have TD := Aside0.mk (TC.out.1 hs OW.out.C OW.out.cap ZR.out.C ZR.out.cap)
              clear hs
              go_wp2_with fail
              refine (TD.out).mono ?_
              rintro e wv ⟨rfl, hb⟩
              have hbn := hb.alloc hb.size (.cells (supCs n0 n1 n2 n3 n4 n5) 25)
              replace KK := Aside0.mk (KK.out.trans (hbn.mono KK.out.size))
              replace S3 := Aside0.mk ((hbn.block _ (blk_lt S3.out)).trans S3.out)
              replace N7 := Aside0.mk ((hbn.block _ (blk_lt N7.out)).trans N7.out)
              replace GB := Aside0.mk ((hbn.block _ (blk_lt GB.out)).trans GB.out)
              replace OW := Aside0.mk (own_below OW.out hbn)
              replace NX := Aside0.mk (own_below NX.out hbn)
              have RR := Aside0.mk (heap_new wv (.cells (supCs n0 n1 n2 n3 n4 n5) 25))
              clear hb hbn
              obtain ⟨s0, s1, s2, s3, s4, s5⟩ := sup_cells S3.out
              obtain ⟨m0, m1, m2, m3, m4, m5⟩ := sup_cells N7.out
              obtain ⟨q0, q1, q2, q3, q4, q5⟩ := sup_cells RR.out
              have hna : (n0 == a0) = false := by simpa using (show n0 ≠ a0 by have := EE.out.1; omega)
              go_wp2_with fail
              all_goals
                go_roundg (gout - 1)
                case measure => have := HK.out; omega
                case rel => exact ⟨2, by go_num, ⟨by have := HK.out; omega⟩, S3, N7, GB, OW, NX, KK⟩
            have h15 := tsP_no PK.out hP
            rw [if_neg hP] at hfa
            have TC := Aside0.mk (torn_calls (fo := fo) HS0.out HS1.out EE.out.1 (.inr ⟨by rw [hfa]; exact OTH.out, rfl⟩))
            clear hfa hfo
            obtain ⟨s0, s1, s2, s3, s4, s5⟩ := sup_cells S3.out
            go_wp2_with fail
            refine (slot_c _ a0 a1 a2 a3 a4 a5).mono ?_
            rintro e wu ⟨rfl, hb⟩
            replace KK := Aside0.mk (KK.out.trans (hb.mono KK.out.size))
            replace S3 := Aside0.mk ((hb.block _ (blk_lt S3.out)).trans S3.out)
            replace N7 := Aside0.mk ((hb.block _ (blk_lt N7.out)).trans N7.out)
            replace GB := Aside0.mk ((hb.block _ (blk_lt GB.out)).trans GB.out)
            replace OW := Aside0.mk (own_below OW.out hb)
            replace NX := Aside0.mk (own_below NX.out hb)
            replace ZR := Aside0.mk (own_below ZR.out hb)
            clear hb s0 s1 s2 s3 s4 s5
            by_cases hs : slotI a0 = 1
            case pos =>
              have hsb : (slotI a0 == 1) = true := by simpa using hs
              have TD := Aside0.mk (TC.out.2 hs OW.out.C OW.out.cap ZR.out.C ZR.out.cap)
              clear hs
              go_wp2_with fail
              refine (TD.out).mono ?_
              rintro e wv ⟨rfl, hb⟩
              have hbn := hb.alloc hb.size (.cells (supCs a0 a1 a2 a3 a4 a5) 25)
              replace KK := Aside0.mk (KK.out.trans (hbn.mono KK.out.size))
              replace S3 := Aside0.mk ((hbn.block _ (blk_lt S3.out)).trans S3.out)
              replace N7 := Aside0.mk ((hbn.block _ (blk_lt N7.out)).trans N7.out)
              replace GB := Aside0.mk ((hbn.block _ (blk_lt GB.out)).trans GB.out)
              replace OW := Aside0.mk (own_below OW.out hbn)
              replace NX := Aside0.mk (own_below NX.out hbn)
              have RR := Aside0.mk (heap_new wv (.cells (supCs a0 a1 a2 a3 a4 a5) 25))
              clear hb hbn
              obtain ⟨s0, s1, s2, s3, s4, s5⟩ := sup_cells S3.out
              obtain ⟨m0, m1, m2, m3, m4, m5⟩ := sup_cells N7.out
              obtain ⟨q0, q1, q2, q3, q4, q5⟩ := sup_cells RR.out
              go_wp2_with fail
              all_goals
                go_roundg (gout - 1)
                case measure => have := HK.out; omega
                case rel => exact ⟨2, by go_num, ⟨by have := HK.out; omega⟩, S3, N7, GB, OW, NX, KK⟩
            have hsb : (slotI a0 == 1) = false := by simpa using hs
            have TD := Aside0.mk (TC.out.1 hs OW.out.C OW.out.cap ZR.out.C ZR.out.cap)
            clear hs
            go_wp2_with fail
            refine (TD.out).mono ?_
            rintro e wv ⟨rfl, hb⟩
            have hbn := hb.alloc hb.size (.cells (supCs a0 a1 a2 a3 a4 a5) 25)
            replace KK := Aside0.mk (KK.out.trans (hbn.mono KK.out.size))
            replace S3 := Aside0.mk ((hbn.block _ (blk_lt S3.out)).trans S3.out)
            replace N7 := Aside0.mk ((hbn.block _ (blk_lt N7.out)).trans N7.out)
            replace GB := Aside0.mk ((hbn.block _ (blk_lt GB.out)).trans GB.out)
            replace OW := Aside0.mk (own_below OW.out hbn)
            replace NX := Aside0.mk (own_below NX.out hbn)
            have RR := Aside0.mk (heap_new wv (.cells (supCs a0 a1 a2 a3 a4 a5) 25))
            clear hb hbn
            obtain ⟨s0, s1, s2, s3, s4, s5⟩ := sup_cells S3.out
            obtain ⟨m0, m1, m2, m3, m4, m5⟩ := sup_cells N7.out
            obtain ⟨q0, q1, q2, q3, q4, q5⟩ := sup_cells RR.out
            go_wp2_with fail
            all_goals
              go_roundg (gout - 1)
              case measure => have := HK.out; omega
              case rel => exact ⟨2, by go_num, ⟨by have := HK.out; omega⟩, S3, N7, GB, OW, NX, KK⟩
        have hg1 : decide (a0 > 1) = true := decide_eq_true h1
        have hg2 : decide (1 < a0) = true := decide_eq_true h1
        have H1 := Aside0.mk h1
        have hw1 : wrap64 (a0 - 1) = a0 - 1 := w64id (by omega) (by have := (chk_ok HS0.out).2.2.1; omega)
        clear h1
        go_wp2_with (first | (at_make; (refine Kd.R_make (Kd.int .u8) (w0 := wr) wr.heap.size 5 rfl rfl 34 (.const (.int .i64 256)) (.const (.int .i64 256)) rfl 256 rfl rfl Try.underlying34 (.int .u8 0) 1 info5 rfl (by decide) (by decide) 0 (ok := fun _ => True) (okp := fun _ => False) rfl (fun _ h => h.elim) trivial (by decide) (by decide) (Below.refl _ _) (Nat.le_refl _) ?_); intro v1 wo ho hbo hg hat; replace KK := Aside0.mk (KK.out.trans (hbo.mono KK.out.size)); replace S3 := Aside0.mk ((hbo.block _ (blk_lt S3.out)).trans S3.out); replace N7 := Aside0.mk ((hbo.block _ (blk_lt N7.out)).trans N7.out); replace GB := Aside0.mk ((hbo.block _ (blk_lt GB.out)).trans GB.out); replace OW := Aside0.mk (own_below OW.out hbo); replace NX := Aside0.mk (own_below NX.out hbo); obtain ⟨Ao, co, hv1, hO⟩ := own_of ho; subst hv1; have ZR := Aside0.mk hO; have SZ := Aside0.mk hbo.size; clear ho hbo hg hat hO hcell; obtain ⟨s0, s1, s2, s3, s4, s5⟩ := sup_cells S3.out))
        clear hg1 hg2 s0 s1 s2 s3 s4 s5 hw1
        refine (sbytes_ok _ (a0 - 1) a1 a2 a3 a4 a5 (prev_ok HS0.out H1.out)).mono ?_
        rintro e wp ⟨Ap, cp, rfl, hPr, hb⟩
        have hbn : Below wo.heap.size wo wp := by
          refine Below.trans ?_ (hb.mono (by simp))
          first
            | exact (Below.refl _ _).alloc (Nat.le_refl _) _
            | exact ((Below.refl _ _).alloc (Nat.le_refl _) _).setCell (Nat.le_refl _) _
        replace KK := Aside0.mk (KK.out.trans (hbn.mono KK.out.size))
        replace S3 := Aside0.mk ((hbn.block _ (blk_lt S3.out)).trans S3.out)
        replace N7 := Aside0.mk ((hbn.block _ (blk_lt N7.out)).trans N7.out)
        replace GB := Aside0.mk ((hbn.block _ (blk_lt GB.out)).trans GB.out)
        replace OW := Aside0.mk (own_below OW.out hbn)
        replace NX := Aside0.mk (own_below NX.out hbn)
        have ZR2 := Aside0.mk (own_lower hPr (Nat.le_trans SZ.out (by simp)) : Own wp wr.heap.size Ap cp (supB (a0 - 1) a1 a2 a3 a4 a5))
        clear hb hbn hPr ZR SZ
        have ZR := ZR2
        obtain ⟨Ao, hAo⟩ : ∃ x, x = Ap := ⟨_, rfl⟩
        obtain ⟨co2, hco⟩ : ∃ x, x = cp := ⟨_, rfl⟩
        subst hAo hco
        clear ZR2
        go_wp2_with fail
        obtain ⟨o, ho_⟩ : ∃ o : List Int, o = supB (a0 - 1) a1 a2 a3 a4 a5 := ⟨_, rfl⟩
        rw [← ho_] at ZR
        have LO := Aside0.mk (show o.length = 256 by rw [ho_]; exact supB_length _ _ _ _ _ _)
        have OTH := Aside0.mk (show Other a0 a1 a2 a3 a4 a5 o from .inr ⟨H1.out, ho_⟩)
        clear ho_
        obtain ⟨wq, hwq⟩ : ∃ w', w' = wr := ⟨_, rfl⟩
        subst hwq
        have hz : 0 < o.length := by rw [LO.out]; decide
        obtain ⟨gO, hgO1, hgO2, hgO3⟩ : ∃ gO, Ao = some ⟨gO, 0, none⟩ ∧ wq.heap.size ≤ gO ∧ True := by
          obtain ⟨g, _, q1, q2, _⟩ := ZR.out.blk hz
          exact ⟨g, q1, q2, trivial⟩
        subst hgO1
        have NE := Aside0.mk (show w.heap.size ≠ gO ∧ g7 ≠ gO ∧ gB ≠ gO ∧ (∀ g, X = some ⟨g, 0, none⟩ → g ≠ gO) ∧ gN ≠ gO ∧ w.heap.size ≤ gO from by
          have q1 := RL.out
          refine ⟨by omega, by omega, by omega, fun g hg => ?_, by omega, by omega⟩
          have := q1.2.2.2.1 g hg
          omega)
        clear hgO2 hgO3 hz
        go_loopg [99] 256 (fun q v99 w' => ∃ (k : Nat), v99 = .int .i64 (k : Int) ∧ Aside0 (k + q = 256) ∧ Aside0 (w'.heap[w.heap.size]? = some (.cells (supCs a0 a1 a2 a3 a4 a5) 25 (0, 0))) ∧ Aside0 (w'.heap[g7]? = some (.cells (supCs n0 n1 n2 n3 n4 n5) 25 (0, 0))) ∧ Aside0 (w'.heap[gB]? = some (.cells #[.bool false, .bool true] 4 (0, 0))) ∧ Aside0 (Own w' 0 X cx (supB a0 a1 a2 a3 a4 a5)) ∧ Aside0 (Own w' 0 (some ⟨gN, 0, none⟩) cy (supB n0 n1 n2 n3 n4 n5)) ∧ Aside0 (Below w.heap.size w w') ∧ Aside0 (Own w' wq.heap.size (some ⟨gO, 0, none⟩) co2 (torn o (supB n0 n1 n2 n3 n4 n5) (tsP pk) k)))
        case atStart => exact ⟨0, rfl, ⟨rfl⟩, S3, N7, GB, OW, NX, KK, ⟨by rw [torn_zero]; exact ZR.out⟩⟩
        case round =>
          clear S3 N7 GB OW NX KK ZR
          obtain ⟨k, rfl, HJ2, S3, N7, GB, OW, NX, KK, ZR⟩ := hrel
          obtain ⟨wz, hwz⟩ : ∃ w', w' = wr := ⟨_, rfl⟩
          by_cases hlk : k < 256
          case pos =>
            have hgd : decide (k < 256) = true := decide_eq_true hlk
            have hki : (k : Int) < 256 := by omega
            have HN2 := Aside0.mk (step_q2 HJ2.out hlk)
            by_cases ht : Go.bits .and .u8 (pk / 2 ^ (k / 64)) 1 = 1
            case pos =>
              have hp : tsP pk k = true := decide_eq_true ht
              obtain ⟨hc1, _⟩ := own_cell NX.out (k := k) (by rw [supB_length]; exact hlk)
              obtain ⟨hc2, hf2⟩ := own_cell ZR.out (k := k) (by rw [torn_length, LO.out]; exact hlk)
              have Z2 := Aside0.mk (own_set ZR.out (i := k) (by rw [torn_length, LO.out]; exact hlk) ((supB n0 n1 n2 n3 n4 n5).getD k 0))
              rw [← torn_yes o (supB n0 n1 n2 n3 n4 n5) (tsP pk) k hp (by rw [LO.out]; exact hlk)] at Z2
              have S4 := Aside0.mk ((Below.heap_setCell wr ⟨gO, k, none⟩ (.int .u8 ((supB n0 n1 n2 n3 n4 n5).getD k 0)) w.heap.size NE.out.1).trans S3.out)
              have N8 := Aside0.mk ((Below.heap_setCell wr ⟨gO, k, none⟩ (.int .u8 ((supB n0 n1 n2 n3 n4 n5).getD k 0)) g7 NE.out.2.1).trans N7.out)
              have GC := Aside0.mk ((Below.heap_setCell wr ⟨gO, k, none⟩ (.int .u8 ((supB n0 n1 n2 n3 n4 n5).getD k 0)) gB NE.out.2.2.1).trans GB.out)
              have OX := Aside0.mk (own_kept (w1 := wr.setCell ⟨gO, k, none⟩ (.int .u8 ((supB n0 n1 n2 n3 n4 n5).getD k 0))) OW.out (fun g _ h2 => Below.heap_setCell wr ⟨gO, k, none⟩ _ g (NE.out.2.2.2.1 g h2)))
              have NY := Aside0.mk (own_kept (w1 := wr.setCell ⟨gO, k, none⟩ (.int .u8 ((supB n0 n1 n2 n3 n4 n5).getD k 0))) NX.out (fun g _ h2 => Below.heap_setCell wr ⟨gO, k, none⟩ _ g (by injection h2 with h2; injection h2 with h2; rw [← h2]; exact NE.out.2.2.2.2.1)))
              have KL := Aside0.mk (KK.out.setCell (p := ⟨gO, k, none⟩) NE.out.2.2.2.2.2 (.int .u8 ((supB n0 n1 n2 n3 n4 n5).getD k 0)))
              clear hp
              go_wp2_with fail
              go_roundg (gk - 1)
              case measure => exact mea2 HJ2.out hlk
              case rel => exact ⟨k + 1, by go_num, HN2, S4, N8, GC, OX, NY, KL, Z2⟩
            have Z2 := Aside0.mk (show Own wr wq.heap.size (some ⟨gO, 0, none⟩) co2 (torn o (supB n0 n1 n2 n3 n4 n5) (tsP pk) (k + 1)) from by rw [torn_no o (supB n0 n1 n2 n3 n4 n5) (tsP pk) k (decide_eq_false ht)]; exact ZR.out)
            go_wp2_with fail
            go_roundg (gk - 1)
            case measure => exact mea2 HJ2.out hlk
            case rel => exact ⟨k + 1, by go_num, HN2, S3, N7, GB, OW, NX, KK, Z2⟩
          have hke : k = 256 := by have := HJ2.out; omega
          subst hke
          clear hlk hwz HJ2
          obtain ⟨fo, hfo⟩ : ∃ x, x = torn o (supB n0 n1 n2 n3 n4 n5) (tsP pk) 256 := ⟨_, rfl⟩
          rw [← hfo] at ZR
          have hfa := torn_all o (supB n0 n1 n2 n3 n4 n5) (tsP pk) LO.out (supB_length _ _ _ _ _ _) (fun i h1 h2 => other_far OTH.out i h1 h2) (fun i h1 h2 => supB_far _ _ _ _ _ _ i h1 h2) (tsP_low pk)
          rw [← hfo] at hfa
          by_cases hP : tsP pk 0 = true
          case pos =>
            rw [if_pos hP] at hfa
            have TC := Aside0.mk (torn_calls (fo := fo) HS0.out HS1.out EE.out.1 (.inl ⟨hfa, rfl⟩))
            clear hfa hfo
            obtain ⟨s0, s1, s2, s3, s4, s5⟩ := sup_cells S3.out
            go_wp2_with fail
            refine (slot_c _ a0 a1 a2 a3 a4 a5).mono ?_
            rintro e wu ⟨rfl, hb⟩
            replace KK := Aside0.mk (KK.out.trans (hb.mono KK.out.size))
            replace S3 := Aside0.mk ((hb.block _ (blk_lt S3.out)).trans S3.out)
            replace N7 := Aside0.mk ((hb.block _ (blk_lt N7.out)).trans N7.out)
            replace GB := Aside0.mk ((hb.block _ (blk_lt GB.out)).trans GB.out)
            replace OW := Aside0.mk (own_below OW.out hb)
            replace NX := Aside0.mk (own_below NX.out hb)
            replace ZR := Aside0.mk (own_below ZR.out hb)
            clear hb s0 s1 s2 s3 s4 s5
            by_cases hs : slotI a0 = 1
            case pos =>
              have hsb : (slotI a0 == 1) = true := by simpa using hs
              have TD := Aside0.mk (TC.out.2 hs OW.out.C OW.out.cap ZR.out.C ZR.out.cap)
              clear hs
              go_wp2_with fail
              refine (TD.out).mono ?_
              rintro e wv ⟨rfl, hb⟩
              have hbn := hb.alloc hb.size (.cells (supCs n0 n1 n2 n3 n4 n5) 25)
              replace KK := Aside0.mk (KK.out.trans (hbn.mono KK.out.size))
              replace S3 := Aside0.mk ((hbn.block _ (blk_lt S3.out)).trans S3.out)
              replace N7 := Aside0.mk ((hbn.block _ (blk_lt N7.out)).trans N7.out)
              replace GB := Aside0.mk ((hbn.block _ (blk_lt GB.out)).trans GB.out)
              replace OW := Aside0.mk (own_below OW.out hbn)
              replace NX := Aside0.mk (own_below NX.out hbn)
              have RR := Aside0.mk (heap_new wv (.cells (supCs n0 n1 n2 n3 n4 n5) 25))
              clear hb hbn
              obtain ⟨s0, s1, s2, s3, s4, s5⟩ := sup_cells S3.out
              obtain ⟨m0, m1, m2, m3, m4, m5⟩ := sup_cells N7.out
              obtain ⟨q0, q1, q2, q3, q4, q5⟩ := sup_cells RR.out
              have hna : (n0 == a0) = false := by simpa using (show n0 ≠ a0 by have := EE.out.1; omega)
              go_wp2_with fail
              all_goals
                go_roundg (gout - 1)
                case measure => have := HK.out; omega
                case rel => exact ⟨2, by go_num, ⟨by have := HK.out; omega⟩, S3, N7, GB, OW, NX, KK⟩
            have hsb : (slotI a0 == 1) = false := by simpa using hs
            have TD := Aside0.mk (TC.out.1 hs OW.out.C OW.out.cap ZR.out.C ZR.out.cap)
            clear hs
            go_wp2_with fail
            refine (TD.out).mono ?_
            rintro e wv ⟨rfl, hb⟩
            have hbn := hb.alloc hb.size (.cells (supCs n0 n1 n2 n3 n4 n5) 25)
            replace KK := Aside0.mk (KK.out.trans (hbn.mono KK.out.size))
            replace S3 := Aside0.mk ((hbn.block _ (blk_lt S3.out)).trans S3.out)
            replace N7 := Aside0.mk ((hbn.block _ (blk_lt N7.out)).trans N7.out)
            replace GB := Aside0.mk ((hbn.block _ (blk_lt GB.out)).trans GB.out)
            replace OW := Aside0.mk (own_below OW.out hbn)
            replace NX := Aside0.mk (own_below NX.out hbn)
            have RR := Aside0.mk (heap_new wv (.cells (supCs n0 n1 n2 n3 n4 n5) 25))
            clear hb hbn
            obtain ⟨s0, s1, s2, s3, s4, s5⟩ := sup_cells S3.out
            obtain ⟨m0, m1, m2, m3, m4, m5⟩ := sup_cells N7.out
            obtain ⟨q0, q1, q2, q3, q4, q5⟩ := sup_cells RR.out
            have hna : (n0 == a0) = false := by simpa using (show n0 ≠ a0 by have := EE.out.1; omega)
            go_wp2_with fail
            all_goals
              go_roundg (gout - 1)
              case measure => have := HK.out; omega
              case rel => exact ⟨2, by go_num, ⟨by have := HK.out; omega⟩, S3, N7, GB, OW, NX, KK⟩
          have h15 := tsP_no PK.out hP
          rw [if_neg hP] at hfa
          have TC := Aside0.mk (torn_calls (fo := fo) HS0.out HS1.out EE.out.1 (.inr ⟨by rw [hfa]; exact OTH.out, rfl⟩))
          clear hfa hfo
          obtain ⟨s0, s1, s2, s3, s4, s5⟩ := sup_cells S3.out
          go_wp2_with fail
          refine (slot_c _ a0 a1 a2 a3 a4 a5).mono ?_
          rintro e wu ⟨rfl, hb⟩
          replace KK := Aside0.mk (KK.out.trans (hb.mono KK.out.size))
          replace S3 := Aside0.mk ((hb.block _ (blk_lt S3.out)).trans S3.out)
          replace N7 := Aside0.mk ((hb.block _ (blk_lt N7.out)).trans N7.out)
          replace GB := Aside0.mk ((hb.block _ (blk_lt GB.out)).trans GB.out)
          replace OW := Aside0.mk (own_below OW.out hb)
          replace NX := Aside0.mk (own_below NX.out hb)
          replace ZR := Aside0.mk (own_below ZR.out hb)
          clear hb s0 s1 s2 s3 s4 s5
          by_cases hs : slotI a0 = 1
          case pos =>
            have hsb : (slotI a0 == 1) = true := by simpa using hs
            have TD := Aside0.mk (TC.out.2 hs OW.out.C OW.out.cap ZR.out.C ZR.out.cap)
            clear hs
            go_wp2_with fail
            refine (TD.out).mono ?_
            rintro e wv ⟨rfl, hb⟩
            have hbn := hb.alloc hb.size (.cells (supCs a0 a1 a2 a3 a4 a5) 25)
            replace KK := Aside0.mk (KK.out.trans (hbn.mono KK.out.size))
            replace S3 := Aside0.mk ((hbn.block _ (blk_lt S3.out)).trans S3.out)
            replace N7 := Aside0.mk ((hbn.block _ (blk_lt N7.out)).trans N7.out)
            replace GB := Aside0.mk ((hbn.block _ (blk_lt GB.out)).trans GB.out)
            replace OW := Aside0.mk (own_below OW.out hbn)
            replace NX := Aside0.mk (own_below NX.out hbn)
            have RR := Aside0.mk (heap_new wv (.cells (supCs a0 a1 a2 a3 a4 a5) 25))
            clear hb hbn
            obtain ⟨s0, s1, s2, s3, s4, s5⟩ := sup_cells S3.out
            obtain ⟨m0, m1, m2, m3, m4, m5⟩ := sup_cells N7.out
            obtain ⟨q0, q1, q2, q3, q4, q5⟩ := sup_cells RR.out
            go_wp2_with fail
            all_goals
              go_roundg (gout - 1)
              case measure => have := HK.out; omega
              case rel => exact ⟨2, by go_num, ⟨by have := HK.out; omega⟩, S3, N7, GB, OW, NX, KK⟩
          have hsb : (slotI a0 == 1) = false := by simpa using hs
          have TD := Aside0.mk (TC.out.1 hs OW.out.C OW.out.cap ZR.out.C ZR.out.cap)
          clear hs
          go_wp2_with fail
          refine (TD.out).mono ?_
          rintro e wv ⟨rfl, hb⟩
          have hbn := hb.alloc hb.size (.cells (supCs a0 a1 a2 a3 a4 a5) 25)
          replace KK := Aside0.mk (KK.out.trans (hbn.mono KK.out.size))
          replace S3 := Aside0.mk ((hbn.block _ (blk_lt S3.out)).trans S3.out)
          replace N7 := Aside0.mk ((hbn.block _ (blk_lt N7.out)).trans N7.out)
          replace GB := Aside0.mk ((hbn.block _ (blk_lt GB.out)).trans GB.out)
          replace OW := Aside0.mk (own_below OW.out hbn)
          replace NX := Aside0.mk (own_below NX.out hbn)
          have RR := Aside0.mk (heap_new wv (.cells (supCs a0 a1 a2 a3 a4 a5) 25))
          clear hb hbn
          obtain ⟨s0, s1, s2, s3, s4, s5⟩ := sup_cells S3.out
          obtain ⟨m0, m1, m2, m3, m4, m5⟩ := sup_cells N7.out
          obtain ⟨q0, q1, q2, q3, q4, q5⟩ := sup_cells RR.out
          go_wp2_with fail
          all_goals
            go_roundg (gout - 1)
            case measure => have := HK.out; omega
            case rel => exact ⟨2, by go_num, ⟨by have := HK.out; omega⟩, S3, N7, GB, OW, NX, KK⟩
    have hj : j = 2 := by have := HJ.out; omega
    subst hj
    clear hlt
    go_wp2_with fail
    go_ret
    exact ⟨by simp, KK.out⟩
theorem SuperTornR (w : World) (a0 : Int) (_ : (Lit.int .i64 a0).wf = true) (a1 : Int) (_ : (Lit.int .i64 a1).wf = true) (a2 : Int) (_ : (Lit.int .i64 a2).wf = true) (a3 : Int) (_ : (Lit.int .i64 a3).wf = true) (a4 : Int) (_ : (Lit.int .i64 a4).wf = true) (a5 : Int) (_ : (Lit.int .i64 a5).wf = true) (h : Int) (_ : (Lit.int .i64 h).wf = true) (pk : Int) (hp : (Lit.int .u8 pk).wf = true) : Calls Try.prog 7 #[.agg #[.int .i64 a0, .int .i64 a1, .int .i64 a2, .int .i64 a3, .int .i64 a4, .int .i64 a5], .int .i64 h, .int .u8 pk] w fun e w' => e = .returned (.bool true) ∧ Below w.heap.size w w' :=
  SuperTorn w a0 a1 a2 a3 a4 a5 h pk (bytes_wf (l := [pk]) (fun x hx => by rw [List.mem_singleton] at hx; rw [hx]; exact hp) pk (by simp))
end Go.Proofs.Ytojolpamgijcbaa.Pure
