/- Which records may be, which are the same, their sectors at any place; what is handed in is left as it is. -/
import Derived.Test.YtglgndeoldgjbaaRecC
import Derived.Deep.RegionHeld3
import Derived.RangeFuncRecord
namespace Go.Proofs.Ytglgndeoldgjbaa.Pure
open Go.RowKit Go.Proofs.Ytglgndeoldgjbaa Go.Proofs.Ytglgndeoldgjbaa.PTwo Go.Proofs.Ytglgndeoldgjbaa.Mem Go.Proofs.YtglgndeoldgjbaaW.PrintWords Go.Proofs.YtglgndeoldgjbaaW.PrintLast Go.Proofs.YtglgndeoldgjbaaW.PrintMore
set_option linter.unusedVariables false
set_option linter.unusedSimpArgs false

/-- A record's cells. -/
abbrev recCs (a0 a1 a2 : Int) (A : Option Addr) (n c : Nat) (a4 : Int) : Array Value := #[.int .i64 a0, .int .i64 a1, .int .i64 a2, .slice A n c, .int .i64 a4]
theorem rec_cells {w : World} {g : Nat} {a0 a1 a2 : Int} {A : Option Addr} {n c : Nat} {a4 : Int} {t : TypeId} (h : w.heap[g]? = some (.cells (recCs a0 a1 a2 A n c a4) t (0, 0))) :
    w.cell? ⟨g, 0, none⟩ = some (.int .i64 a0) ∧ w.cell? ⟨g, 1, none⟩ = some (.int .i64 a1) ∧ w.cell? ⟨g, 2, none⟩ = some (.int .i64 a2) ∧ w.cell? ⟨g, 3, none⟩ = some (.slice A n c) ∧ w.cell? ⟨g, 4, none⟩ = some (.int .i64 a4) := by
  refine ⟨?_, ?_, ?_, ?_, ?_⟩ <;> (unfold World.cell?; simp only [h]; rfl)
theorem heap_new (w : World) (o : Obj) : (w.alloc o).heap[w.heap.size]? = some o := World.alloc_heap_new w o
theorem own_below {w w1 : World} {base : Nat} {A : Option Addr} {c : Nat} {l : List Int} (h : Own w base A c l) (hb : Below w.heap.size w w1) : Own w1 base A c l :=
  ⟨h.cap, Kd.C_below h.C hb, fun hp => by
    obtain ⟨g, cur, h1, h2, h3, h4⟩ := h.blk hp
    exact ⟨g, cur, h1, h2, (hb.block _ (blk_lt h3)).trans h3, h4⟩⟩
/-- A row lies in one block, or has no element. -/
theorem own_lt {w : World} {base : Nat} {A : Option Addr} {c : Nat} {l : List Int} (h : Own w base A c l) : ∀ g, 0 < l.length → A = some ⟨g, 0, none⟩ → base ≤ g ∧ g < w.heap.size := fun g hp hA => by
  obtain ⟨g', cur, h1, h2, h3, h4⟩ := h.blk hp
  rw [hA] at h1
  injection h1 with h1
  injection h1 with h1
  subst h1
  exact ⟨h2, blk_lt h3⟩
theorem rec_self (a0 a1 a2 a4 : Int) (l : List Int) : decide (a0 = a0 ∧ a1 = a1 ∧ a2 = a2 ∧ a4 = a4 ∧ l = l) = true := by simp
/-- That many cells of a block are bytes. -/
def RowAt (w : World) (g n : Nat) : Prop := 0 < n → ∃ cur : List Value, w.heap[g]? = some (.cells cur.toArray 5 (0, 0)) ∧ ∀ j, j < n → ∃ x, cur[j]? = some (.int .u8 x)
theorem own_kept {w w1 : World} {base : Nat} {A : Option Addr} {c : Nat} {l : List Int} (h : Own w base A c l) (hk : ∀ g, 0 < l.length → A = some ⟨g, 0, none⟩ → w1.heap[g]? = w.heap[g]?) : Own w1 base A c l := by
  refine ⟨h.cap, ?_, fun hp => ?_⟩
  · rcases Nat.eq_zero_or_pos l.length with h0 | hp
    · exact ⟨rfl, h.C.2.1, fun h1 => absurd h1 (by omega)⟩
    · obtain ⟨g, cur, h1, h2, h3, h4⟩ := h.blk hp
      rw [h1]
      exact blk_C (enc := Value.int .u8) (h1 := fun _ => rfl) ((hk g hp h1).trans h3) (by simpa using h4) h.C.2.1
  · obtain ⟨g, cur, h1, h2, h3, h4⟩ := h.blk hp
    exact ⟨g, cur, h1, h2, (hk g hp h1).trans h3, h4⟩
/-- The block in which a row lies; of a row without an element: one that is not there yet. -/
theorem pick_blk {w : World} {base : Nat} {A : Option Addr} {c : Nat} {l : List Int} (h : Own w base A c l) (hb : base ≤ w.heap.size) :
    ∃ g, base ≤ g ∧ ((l.length = 0 ∧ g = w.heap.size) ∨ (0 < l.length ∧ A = some ⟨g, 0, none⟩ ∧ g < w.heap.size)) ∧ RowAt w g l.length := by
  rcases Nat.eq_zero_or_pos l.length with h0 | hp
  · exact ⟨w.heap.size, hb, .inl ⟨h0, rfl⟩, fun hp => absurd hp (by omega)⟩
  · obtain ⟨g, cur, h1, h2, h3, h4⟩ := h.blk hp
    refine ⟨g, h2, .inr ⟨hp, h1, blk_lt h3⟩, fun _ => ⟨cur, h3, fun j hj => ⟨l[j], ?_⟩⟩⟩
    have := getD_of (L := cur) (xs := l) (o := 0) (enc := Value.int .u8) (by simpa using h4) j hj
    rwa [Nat.zero_add] at this
theorem rowAt_cell {w : World} {g n : Nat} (h : RowAt w g n) {k : Nat} (hk : k < n) : ∃ x, w.cell? ⟨g, k, none⟩ = some (.int .u8 x) ∧ w.frozen? ⟨g, k, none⟩ = false := by
  obtain ⟨cur, h1, h2⟩ := h (by omega)
  obtain ⟨x, hx⟩ := h2 k hk
  exact ⟨x, by rw [blk_cell h1]; simpa using hx, blk_frozen h1 k⟩
theorem rowAt_set {w : World} {g n : Nat} (h : RowAt w g n) (k : Nat) (y : Int) : RowAt (w.setCell ⟨g, k, none⟩ (.int .u8 y)) g n := fun hp => by
  obtain ⟨cur, h1, h2⟩ := h hp
  refine ⟨cur.set k (.int .u8 y), by rw [blk_set h1]; simp, fun j hj => ?_⟩
  rw [List.getElem?_set]
  by_cases e : k = j
  · subst e
    obtain ⟨x, hx⟩ := h2 k hj
    rw [if_pos rfl, if_pos (by rcases Nat.lt_or_ge k cur.length with h | h; exact h; rw [List.getElem?_eq_none h] at hx; cases hx)]
    exact ⟨y, rfl⟩
  · rw [if_neg e]
    exact h2 j hj
theorem rowAt_kept {w w1 : World} {g n : Nat} (h : RowAt w g n) (hk : 0 < n → w1.heap[g]? = w.heap[g]?) : RowAt w1 g n := fun hp => by
  obtain ⟨cur, h1, h2⟩ := h hp
  exact ⟨cur, (hk hp).trans h1, h2⟩
theorem only_trans {g : Nat} {w w1 w2 : World} (h : Only g w w1) (h2 : Only g w1 w2) : Only g w w2 := ⟨h2.os.trans h.os, h2.tape.trans h.tape, h2.output.trans h.output, h2.size.trans h.size, fun k hk => (h2.block k hk).trans (h.block k hk)⟩
theorem step_q {k q n : Nat} (h : k + q = n) (hl : k < n) : k + 1 + (q - 1) = n := by omega
theorem step_m {k q n : Nat} (h : k + q = n) (hl : k < n) : q - 1 < q := by omega
theorem two_new (w : World) (o p : Obj) : (((w.alloc o).alloc p).heap[w.heap.size]? = some o) ∧ (((w.alloc o).alloc p).heap[w.heap.size + 1]? = some p) := by
  refine ⟨(Below.heap_alloc (w.alloc o) p w.heap.size (by simp)).trans (heap_new w o), ?_⟩
  have := heap_new (w.alloc o) p
  rwa [World.size_alloc] at this
set_option maxRecDepth 100000 in
set_option maxHeartbeats 16000000 in
theorem RecordWrites (w : World) (x0 a0 a1 a2 : Int) (A : Option Addr) (ca : Nat) (l : List Int) (a4 b0 b1 b2 : Int) (B : Option Addr) (cb : Nat) (m : List Int) (b4 : Int)
    (hl : Bytes l) (hla : l.length ≤ 140737488351232) (hC : Kd.C (Kd.int .u8) w A l.length l) (hca : l.length ≤ ca) (hm : Bytes m) (hlb : m.length ≤ 140737488351232) (hD : Kd.C (Kd.int .u8) w B m.length m) (hcb : m.length ≤ cb) :
    Calls Try.prog 4 #[.int .i64 x0, .agg (recCs a0 a1 a2 A l.length ca a4), .agg (recCs b0 b1 b2 B m.length cb b4)] w fun e w' => e = .returned (.bool true) ∧ Below w.heap.size w w' := by
  have hu24 := Try.underlying24
  have LB := Aside0.mk hl
  have MB := Aside0.mk hm
  have CA := Aside0.mk hca
  have CB := Aside0.mk hcb
  have LL := Aside0.mk hla
  obtain ⟨r, n, hr⟩ : ∃ r n, bytesA x0 a0 a1 a2 l a4 = (r, n) := ⟨_, _, rfl⟩
  have RR := Aside0.mk hr
  have hlI : (l.length : Int) ≤ 140737488351232 := by omega
  have hmI : (m.length : Int) ≤ 140737488351232 := by omega
  have HB0 := ((Below.refl w.heap.size w).alloc (Nat.le_refl _) (.cells (recCs a0 a1 a2 A l.length ca a4) 24))
  have K0 := Aside0.mk (HB0.alloc HB0.size (.cells (recCs b0 b1 b2 B m.length cb b4) 24))
  have HC0 := Aside0.mk hC
  have C0 := Aside0.mk (Kd.C_below hC K0.out)
  have D0 := Aside0.mk (Kd.C_below hD K0.out)
  obtain ⟨hp0, hq0⟩ := two_new w (.cells (recCs a0 a1 a2 A l.length ca a4) 24) (.cells (recCs b0 b1 b2 B m.length cb b4) 24)
  have P0 := Aside0.mk hp0
  have Q0 := Aside0.mk hq0
  clear hp0 hq0 hl hm hC hD hca hcb hr HB0 hla hlb
  go_enter Try.func4, Try.ntmps4
  go_wp2_with fail
  refine (begun_c _).mono ?_
  rintro e w1 ⟨rfl, hb1⟩
  have K1 := Aside0.mk (K0.out.trans (hb1.mono K0.out.size))
  have C1 := Aside0.mk (Kd.C_below C0.out hb1)
  have D1 := Aside0.mk (Kd.C_below D0.out hb1)
  have P1 := Aside0.mk ((hb1.block _ (blk_lt P0.out)).trans P0.out)
  have Q1 := Aside0.mk ((hb1.block _ (blk_lt Q0.out)).trans Q0.out)
  obtain ⟨p0, p1, p2, p3, p4⟩ := rec_cells P1.out
  obtain ⟨q0, q1, q2, q3, q4⟩ := rec_cells Q1.out
  clear hb1
  by_cases hbig : l.length > 5000
  case pos =>
    have hgd : decide ((l.length : Int) > 5000) = true := decide_eq_true (by omega)
    have hgd2 : decide (l.length > 5000) = true := decide_eq_true hbig
    have hgd3 : decide (5000 < l.length) = true := decide_eq_true hbig
    clear hbig
    go_wp2_with fail
    refine (begun_c _).mono ?_
    rintro e w2 ⟨rfl, hb2⟩
    have K2 := Aside0.mk (K1.out.trans (hb2.mono K1.out.size))
    clear hb2
    go_wp2_with fail
    go_ret
    exact ⟨by simp, K2.out⟩
  have hgd : decide ((l.length : Int) > 5000) = false := decide_eq_false (by omega)
  have hgd2 : decide (l.length > 5000) = false := decide_eq_false hbig
  have hgd3 : decide (5000 < l.length) = false := decide_eq_false hbig
  by_cases hbigm : m.length > 5000
  case pos =>
    have hge : decide ((m.length : Int) > 5000) = true := decide_eq_true (by omega)
    have hge2 : decide (m.length > 5000) = true := decide_eq_true hbigm
    have hge3 : decide (5000 < m.length) = true := decide_eq_true hbigm
    clear hbig hbigm
    go_wp2_with fail
    refine (begun_c _).mono ?_
    rintro e w2 ⟨rfl, hb2⟩
    have K2 := Aside0.mk (K1.out.trans (hb2.mono K1.out.size))
    clear hb2
    go_wp2_with fail
    go_ret
    exact ⟨by simp, K2.out⟩
  have hge : decide ((m.length : Int) > 5000) = false := decide_eq_false (by omega)
  have hge2 : decide (m.length > 5000) = false := decide_eq_false hbigm
  have hge3 : decide (5000 < m.length) = false := decide_eq_false hbigm
  clear hbig hbigm
  go_wp2_with fail
  refine (rclone_c a0 a1 a2 a4 C1.out CA.out (by have := LL.out; omega)).mono ?_
  rintro e w2 ⟨W, cw, rfl, hW, hb2⟩
  obtain ⟨o2, ho2⟩ : ∃ o, o = Obj.cells (recCs a0 a1 a2 W l.length cw a4) 24 := ⟨_, rfl⟩
  have hb2a : Below (w1).heap.size w1 (w2.alloc o2) := hb2.alloc hb2.size _
  obtain ⟨gv, hgv⟩ : ∃ gv, gv = w2.heap.size := ⟨_, rfl⟩
  have hW0 : (w2.alloc o2).heap[gv]? = some o2 := by rw [hgv]; exact heap_new w2 o2
  have K2 := Aside0.mk (K1.out.trans (hb2a.mono K1.out.size))
  have C2 := Aside0.mk (Kd.C_below C1.out hb2a)
  have D2 := Aside0.mk (Kd.C_below D1.out hb2a)
  have P2 := Aside0.mk ((hb2a.block _ (blk_lt P1.out)).trans P1.out)
  have Q2 := Aside0.mk ((hb2a.block _ (blk_lt Q1.out)).trans Q1.out)
  have hWb : Below w2.heap.size w2 (w2.alloc o2) := (Below.refl _ w2).alloc (Nat.le_refl _) _
  subst ho2
  have V2 := Aside0.mk hW0
  have W2 := Aside0.mk (own_below hW hWb)
  have GW := Aside0.mk (own_lt hW)
  have LV := Aside0.mk (show w.heap.size + 1 < gv from by rw [hgv]; exact Nat.lt_of_lt_of_le (blk_lt Q1.out) hb2.size)
  have GV := Aside0.mk hgv
  clear hb2 hb2a hW0 hWb hW hgd hgd2 hgd3 hge hge2 hge3 p0 p1 p2 p3 p4 q0 q1 q2 q3 q4
  obtain ⟨p0, p1, p2, p3, p4⟩ := rec_cells P2.out
  go_wp2_with fail
  clear p0 p1 p2 p3 p4
  rw [← hgv]
  clear hgv
  refine (bytes_c a0 a1 a2 a4 x0 C2.out CA.out LB.out RR.out).mono ?_
  rintro e w3 ⟨X, cx, rfl, hX, hb3⟩
  have K3 := Aside0.mk (K2.out.trans (hb3.mono K2.out.size))
  have C3 := Aside0.mk (Kd.C_below C2.out hb3)
  have D3 := Aside0.mk (Kd.C_below D2.out hb3)
  have P3 := Aside0.mk ((hb3.block _ (blk_lt P2.out)).trans P2.out)
  have Q3 := Aside0.mk ((hb3.block _ (blk_lt Q2.out)).trans Q2.out)
  have V3 := Aside0.mk ((hb3.block _ (blk_lt V2.out)).trans V2.out)
  have W3 := Aside0.mk (own_below W2.out hb3)
  have X3 := Aside0.mk hX
  clear hb3 hX
  obtain ⟨p0, p1, p2, p3, p4⟩ := rec_cells P3.out
  go_wp2_with fail
  clear p0 p1 p2 p3 p4
  refine (rbytes_c a0 a1 a2 a4 x0 C3.out CA.out LB.out (by have := LL.out; omega) RR.out).mono ?_
  rintro e w4 ⟨Y, cy, rfl, hY, hb4⟩
  have K4 := Aside0.mk (K3.out.trans (hb4.mono K3.out.size))
  have C4 := Aside0.mk (Kd.C_below C3.out hb4)
  have D4 := Aside0.mk (Kd.C_below D3.out hb4)
  have P4 := Aside0.mk ((hb4.block _ (blk_lt P3.out)).trans P3.out)
  have Q4 := Aside0.mk ((hb4.block _ (blk_lt Q3.out)).trans Q3.out)
  have V4 := Aside0.mk ((hb4.block _ (blk_lt V3.out)).trans V3.out)
  have W4 := Aside0.mk (own_below W3.out hb4)
  have X4 := Aside0.mk (own_below X3.out hb4)
  have Y4 := Aside0.mk hY
  clear hb4 hY
  obtain ⟨p0, p1, p2, p3, p4⟩ := rec_cells P4.out
  go_wp2_with fail
  clear p0 p1 p2 p3 p4
  refine (clone_c a0 a1 a2 a4 C4.out CA.out (by have := LL.out; omega)).mono ?_
  rintro e w5 ⟨G, cg, rfl, hG, hb5⟩
  obtain ⟨o2, ho2⟩ : ∃ o, o = Obj.cells (recCs a0 a1 a2 G l.length cg a4) 24 := ⟨_, rfl⟩
  have hb5a : Below w4.heap.size w4 (w5.alloc o2) := hb5.alloc hb5.size _
  obtain ⟨gu, hgu⟩ : ∃ gu, gu = w5.heap.size := ⟨_, rfl⟩
  have hU0 : (w5.alloc o2).heap[gu]? = some o2 := by rw [hgu]; exact heap_new w5 o2
  have hGb : Below w5.heap.size w5 (w5.alloc o2) := (Below.refl _ w5).alloc (Nat.le_refl _) _
  subst ho2
  have KK := Aside0.mk (K4.out.trans (hb5a.mono K4.out.size))
  have CC := Aside0.mk (Kd.C_below C4.out hb5a)
  have DD := Aside0.mk (Kd.C_below D4.out hb5a)
  have PP := Aside0.mk ((hb5a.block _ (blk_lt P4.out)).trans P4.out)
  have QQ := Aside0.mk ((hb5a.block _ (blk_lt Q4.out)).trans Q4.out)
  have VV := Aside0.mk ((hb5a.block _ (blk_lt V4.out)).trans V4.out)
  have WW := Aside0.mk (own_below W4.out hb5a)
  have XX := Aside0.mk (own_below X4.out hb5a)
  have YY := Aside0.mk (own_below Y4.out hb5a)
  have GG := Aside0.mk (own_below hG hGb)
  have UU := Aside0.mk hU0
  have OG := Aside0.mk (own_lt hG)
  have OX := Aside0.mk (own_lt X4.out)
  have LX := Aside0.mk (show gv < w4.heap.size from blk_lt V4.out)
  have LU := Aside0.mk (show w4.heap.size ≤ w5.heap.size from hb5.size)
  have LY := Aside0.mk (show w.heap.size + 1 < w5.heap.size from Nat.lt_of_lt_of_le (blk_lt Q4.out) hb5.size)
  obtain ⟨z, hz⟩ : ∃ z, (if recOk a0 a1 a2 l a4 then (0 : Int) else 60) = z := ⟨_, rfl⟩
  obtain ⟨s, hs⟩ : ∃ s, decide (a0 = b0 ∧ a1 = b1 ∧ a2 = b2 ∧ a4 = b4 ∧ l = m) = s := ⟨_, rfl⟩
  have ZZ := Aside0.mk hz
  have S10 := Aside0.mk hs
  have S16 := Aside0.mk hs
  have LK := Aside0.mk (show l.length ≤ 140737488355328 from by have := LL.out; omega)
  have GU := Aside0.mk hgu
  clear hb5 hb5a hU0 hGb hG hz hs K2 C2 D2 P2 Q2 V2 W2 K3 C3 D3 P3 Q3 V3 W3 X3 K4 C4 D4 P4 Q4 V4 W4 X4 Y4 K1 C1 D1 P1 Q1 K0 C0 D0 P0 Q0
  obtain ⟨p0, p1, p2, p3, p4⟩ := rec_cells PP.out
  obtain ⟨q0, q1, q2, q3, q4⟩ := rec_cells QQ.out
  obtain ⟨u0, u1, u2, u3, u4⟩ := rec_cells UU.out
  go_wp2_with fail
  rw [← hgu]
  clear hgu
  have hbn := below_drew (Below.refl (w5.alloc (.cells (recCs a0 a1 a2 G l.length cg a4) 24)).heap.size (w5.alloc (.cells (recCs a0 a1 a2 G l.length cg a4) 24)))
  replace KK := Aside0.mk (KK.out.trans (hbn.mono KK.out.size))
  replace CC := Aside0.mk (Kd.C_below CC.out hbn)
  replace DD := Aside0.mk (Kd.C_below DD.out hbn)
  replace PP := Aside0.mk ((hbn.block _ (blk_lt PP.out)).trans PP.out)
  replace QQ := Aside0.mk ((hbn.block _ (blk_lt QQ.out)).trans QQ.out)
  replace VV := Aside0.mk ((hbn.block _ (blk_lt VV.out)).trans VV.out)
  replace UU := Aside0.mk ((hbn.block _ (blk_lt UU.out)).trans UU.out)
  replace WW := Aside0.mk (own_below WW.out hbn)
  replace XX := Aside0.mk (own_below XX.out hbn)
  replace YY := Aside0.mk (own_below YY.out hbn)
  replace GG := Aside0.mk (own_below GG.out hbn)
  clear hbn
  go_region_held3 (fun w' => w'.cell? ⟨w.heap.size, 0, none⟩ = some (.int .i64 a0) ∧ w'.cell? ⟨w.heap.size, 1, none⟩ = some (.int .i64 a1) ∧ w'.cell? ⟨w.heap.size, 2, none⟩ = some (.int .i64 a2) ∧ w'.cell? ⟨w.heap.size, 3, none⟩ = some (.slice A l.length ca) ∧ w'.cell? ⟨w.heap.size, 4, none⟩ = some (.int .i64 a4) ∧ w'.cell? ⟨w.heap.size + 1, 0, none⟩ = some (.int .i64 b0) ∧ w'.cell? ⟨w.heap.size + 1, 1, none⟩ = some (.int .i64 b1) ∧ w'.cell? ⟨w.heap.size + 1, 2, none⟩ = some (.int .i64 b2) ∧ w'.cell? ⟨w.heap.size + 1, 3, none⟩ = some (.slice B m.length cb) ∧ w'.cell? ⟨w.heap.size + 1, 4, none⟩ = some (.int .i64 b4) ∧ w'.cell? ⟨gu, 0, none⟩ = some (.int .i64 a0) ∧ w'.cell? ⟨gu, 1, none⟩ = some (.int .i64 a1) ∧ w'.cell? ⟨gu, 2, none⟩ = some (.int .i64 a2) ∧ w'.cell? ⟨gu, 3, none⟩ = some (.slice G l.length cg) ∧ w'.cell? ⟨gu, 4, none⟩ = some (.int .i64 a4)) (go_keep)
    (first
      | (go_at_call 9; refine (eqself_c XX.out.C XX.out.cap YY.out.C YY.out.cap).mono ?_; rintro e wn ⟨rfl, hbn⟩; replace KK := Aside0.mk (KK.out.trans (hbn.mono KK.out.size)); replace CC := Aside0.mk (Kd.C_below CC.out hbn); replace DD := Aside0.mk (Kd.C_below DD.out hbn); replace PP := Aside0.mk ((hbn.block _ (blk_lt PP.out)).trans PP.out); replace QQ := Aside0.mk ((hbn.block _ (blk_lt QQ.out)).trans QQ.out); replace VV := Aside0.mk ((hbn.block _ (blk_lt VV.out)).trans VV.out); replace UU := Aside0.mk ((hbn.block _ (blk_lt UU.out)).trans UU.out); replace WW := Aside0.mk (own_below WW.out hbn); replace XX := Aside0.mk (own_below XX.out hbn); replace YY := Aside0.mk (own_below YY.out hbn); replace GG := Aside0.mk (own_below GG.out hbn); clear hbn; clear p0 p1 p2 p3 p4 q0 q1 q2 q3 q4 u0 u1 u2 u3 u4; obtain ⟨p0, p1, p2, p3, p4⟩ := rec_cells PP.out; obtain ⟨q0, q1, q2, q3, q4⟩ := rec_cells QQ.out; obtain ⟨u0, u1, u2, u3, u4⟩ := rec_cells UU.out)
      | (go_at_call 14; refine (check_c a0 a1 a2 a4 CC.out CA.out ZZ.out).mono ?_; rintro e wn ⟨rfl, hbn⟩; replace KK := Aside0.mk (KK.out.trans (hbn.mono KK.out.size)); replace CC := Aside0.mk (Kd.C_below CC.out hbn); replace DD := Aside0.mk (Kd.C_below DD.out hbn); replace PP := Aside0.mk ((hbn.block _ (blk_lt PP.out)).trans PP.out); replace QQ := Aside0.mk ((hbn.block _ (blk_lt QQ.out)).trans QQ.out); replace VV := Aside0.mk ((hbn.block _ (blk_lt VV.out)).trans VV.out); replace UU := Aside0.mk ((hbn.block _ (blk_lt UU.out)).trans UU.out); replace WW := Aside0.mk (own_below WW.out hbn); replace XX := Aside0.mk (own_below XX.out hbn); replace YY := Aside0.mk (own_below YY.out hbn); replace GG := Aside0.mk (own_below GG.out hbn); clear hbn; clear p0 p1 p2 p3 p4 q0 q1 q2 q3 q4 u0 u1 u2 u3 u4; obtain ⟨p0, p1, p2, p3, p4⟩ := rec_cells PP.out; obtain ⟨q0, q1, q2, q3, q4⟩ := rec_cells QQ.out; obtain ⟨u0, u1, u2, u3, u4⟩ := rec_cells UU.out)
      | (go_at_call 15; refine (rcheck_c a0 a1 a2 a4 CC.out CA.out LK.out ZZ.out).mono ?_; rintro e wn ⟨rfl, hbn⟩; replace KK := Aside0.mk (KK.out.trans (hbn.mono KK.out.size)); replace CC := Aside0.mk (Kd.C_below CC.out hbn); replace DD := Aside0.mk (Kd.C_below DD.out hbn); replace PP := Aside0.mk ((hbn.block _ (blk_lt PP.out)).trans PP.out); replace QQ := Aside0.mk ((hbn.block _ (blk_lt QQ.out)).trans QQ.out); replace VV := Aside0.mk ((hbn.block _ (blk_lt VV.out)).trans VV.out); replace UU := Aside0.mk ((hbn.block _ (blk_lt UU.out)).trans UU.out); replace WW := Aside0.mk (own_below WW.out hbn); replace XX := Aside0.mk (own_below XX.out hbn); replace YY := Aside0.mk (own_below YY.out hbn); replace GG := Aside0.mk (own_below GG.out hbn); clear hbn; clear p0 p1 p2 p3 p4 q0 q1 q2 q3 q4 u0 u1 u2 u3 u4; obtain ⟨p0, p1, p2, p3, p4⟩ := rec_cells PP.out; obtain ⟨q0, q1, q2, q3, q4⟩ := rec_cells QQ.out; obtain ⟨u0, u1, u2, u3, u4⟩ := rec_cells UU.out)
      | (go_at_call 10; refine (same_c a0 a1 a2 a4 b0 b1 b2 b4 CC.out CA.out DD.out CB.out LB.out MB.out S10.out).mono ?_; rintro e wn ⟨rfl, hbn⟩; replace KK := Aside0.mk (KK.out.trans (hbn.mono KK.out.size)); replace CC := Aside0.mk (Kd.C_below CC.out hbn); replace DD := Aside0.mk (Kd.C_below DD.out hbn); replace PP := Aside0.mk ((hbn.block _ (blk_lt PP.out)).trans PP.out); replace QQ := Aside0.mk ((hbn.block _ (blk_lt QQ.out)).trans QQ.out); replace VV := Aside0.mk ((hbn.block _ (blk_lt VV.out)).trans VV.out); replace UU := Aside0.mk ((hbn.block _ (blk_lt UU.out)).trans UU.out); replace WW := Aside0.mk (own_below WW.out hbn); replace XX := Aside0.mk (own_below XX.out hbn); replace YY := Aside0.mk (own_below YY.out hbn); replace GG := Aside0.mk (own_below GG.out hbn); clear hbn S10; clear p0 p1 p2 p3 p4 q0 q1 q2 q3 q4 u0 u1 u2 u3 u4; obtain ⟨p0, p1, p2, p3, p4⟩ := rec_cells PP.out; obtain ⟨q0, q1, q2, q3, q4⟩ := rec_cells QQ.out; obtain ⟨u0, u1, u2, u3, u4⟩ := rec_cells UU.out)
      | (go_at_call 16; refine (rsame_c a0 a1 a2 a4 b0 b1 b2 b4 CC.out CA.out DD.out CB.out LB.out MB.out S16.out).mono ?_; rintro e wn ⟨rfl, hbn⟩; replace KK := Aside0.mk (KK.out.trans (hbn.mono KK.out.size)); replace CC := Aside0.mk (Kd.C_below CC.out hbn); replace DD := Aside0.mk (Kd.C_below DD.out hbn); replace PP := Aside0.mk ((hbn.block _ (blk_lt PP.out)).trans PP.out); replace QQ := Aside0.mk ((hbn.block _ (blk_lt QQ.out)).trans QQ.out); replace VV := Aside0.mk ((hbn.block _ (blk_lt VV.out)).trans VV.out); replace UU := Aside0.mk ((hbn.block _ (blk_lt UU.out)).trans UU.out); replace WW := Aside0.mk (own_below WW.out hbn); replace XX := Aside0.mk (own_below XX.out hbn); replace YY := Aside0.mk (own_below YY.out hbn); replace GG := Aside0.mk (own_below GG.out hbn); clear hbn S16; clear p0 p1 p2 p3 p4 q0 q1 q2 q3 q4 u0 u1 u2 u3 u4; obtain ⟨p0, p1, p2, p3, p4⟩ := rec_cells PP.out; obtain ⟨q0, q1, q2, q3, q4⟩ := rec_cells QQ.out; obtain ⟨u0, u1, u2, u3, u4⟩ := rec_cells UU.out)
      | (go_at_call 10; refine (same_c a0 a1 a2 a4 a0 a1 a2 a4 CC.out CA.out CC.out CA.out LB.out LB.out (rec_self a0 a1 a2 a4 l)).mono ?_; rintro e wn ⟨rfl, hbn⟩; replace KK := Aside0.mk (KK.out.trans (hbn.mono KK.out.size)); replace CC := Aside0.mk (Kd.C_below CC.out hbn); replace DD := Aside0.mk (Kd.C_below DD.out hbn); replace PP := Aside0.mk ((hbn.block _ (blk_lt PP.out)).trans PP.out); replace QQ := Aside0.mk ((hbn.block _ (blk_lt QQ.out)).trans QQ.out); replace VV := Aside0.mk ((hbn.block _ (blk_lt VV.out)).trans VV.out); replace UU := Aside0.mk ((hbn.block _ (blk_lt UU.out)).trans UU.out); replace WW := Aside0.mk (own_below WW.out hbn); replace XX := Aside0.mk (own_below XX.out hbn); replace YY := Aside0.mk (own_below YY.out hbn); replace GG := Aside0.mk (own_below GG.out hbn); clear hbn; clear p0 p1 p2 p3 p4 q0 q1 q2 q3 q4 u0 u1 u2 u3 u4; obtain ⟨p0, p1, p2, p3, p4⟩ := rec_cells PP.out; obtain ⟨q0, q1, q2, q3, q4⟩ := rec_cells QQ.out; obtain ⟨u0, u1, u2, u3, u4⟩ := rec_cells UU.out)
      | (go_at_call 16; refine (rsame_c a0 a1 a2 a4 a0 a1 a2 a4 GG.out.C GG.out.cap CC.out CA.out LB.out LB.out (rec_self a0 a1 a2 a4 l)).mono ?_; rintro e wn ⟨rfl, hbn⟩; replace KK := Aside0.mk (KK.out.trans (hbn.mono KK.out.size)); replace CC := Aside0.mk (Kd.C_below CC.out hbn); replace DD := Aside0.mk (Kd.C_below DD.out hbn); replace PP := Aside0.mk ((hbn.block _ (blk_lt PP.out)).trans PP.out); replace QQ := Aside0.mk ((hbn.block _ (blk_lt QQ.out)).trans QQ.out); replace VV := Aside0.mk ((hbn.block _ (blk_lt VV.out)).trans VV.out); replace UU := Aside0.mk ((hbn.block _ (blk_lt UU.out)).trans UU.out); replace WW := Aside0.mk (own_below WW.out hbn); replace XX := Aside0.mk (own_below XX.out hbn); replace YY := Aside0.mk (own_below YY.out hbn); replace GG := Aside0.mk (own_below GG.out hbn); clear hbn; clear p0 p1 p2 p3 p4 q0 q1 q2 q3 q4 u0 u1 u2 u3 u4; obtain ⟨p0, p1, p2, p3, p4⟩ := rec_cells PP.out; obtain ⟨q0, q1, q2, q3, q4⟩ := rec_cells QQ.out; obtain ⟨u0, u1, u2, u3, u4⟩ := rec_cells UU.out))
  clear p0 p1 p2 p3 p4 q0 q1 q2 q3 q4
  obtain ⟨gG, hgG1, hgG2, hgG3⟩ := pick_blk GG.out (by have h1 := LU.out; have h2 := blk_lt UU.out; have h3 := GU.out; omega)
  obtain ⟨gX, hgX1, hgX2, hgX3⟩ := pick_blk XX.out (by have h1 := LX.out; have h2 := blk_lt UU.out; have h3 := GU.out; have h4 := LU.out; have h5 := GV.out; simp only [World.size_alloc]; omega)
  have hX1 : gv < gX := by have h5 := GV.out; simp only [World.size_alloc] at hgX1; omega
  have hX2 : 0 < r.length → gX ≠ gG := fun h1 => by
    rcases hgX2 with ⟨h2, _⟩ | ⟨_, h2, _⟩
    · omega
    · have h3 := OX.out gX h1 h2
      omega
  have hX3 : gX ≠ gv := by omega
  have hG1 : gG ≠ gu := by
    have h5 := GU.out
    rcases hgG2 with ⟨_, h2⟩ | ⟨h1, h2, _⟩
    · have := blk_lt UU.out
      omega
    · have h3 := OG.out gG h1 h2
      omega
  have hG2 : gv < gG := by have := LX.out; omega
  have hX4 : ∀ g, 0 < l.length → W = some ⟨g, 0, none⟩ → g ≠ gG ∧ g ≠ gX := fun g h1 h2 => by
    have h3 := GW.out g h1 h2
    have h5 := GV.out
    omega
  have NN := Aside0.mk (And.intro hX1 (And.intro hX2 (And.intro hX3 (And.intro hG1 (And.intro hG2 hX4)))))
  have G2 := Aside0.mk hgG2
  have G3 := Aside0.mk hgG3
  have X2 := Aside0.mk hgX2
  have X3 := Aside0.mk hgX3
  clear hgG1 hgG2 hgG3 hgX1 hgX2 hgX3 hX1 hX2 hX3 hG1 hG2 hX4
  go_wp2_with fail
  go_loopg [86] l.length (fun q i wr => ∃ k : Nat, i = .int .i64 k ∧ Aside0 (k + q = l.length) ∧ Aside0 (Only gG wn wr) ∧ Aside0 (RowAt wr gG l.length))
  case atStart => exact ⟨0, rfl, ⟨by omega⟩, ⟨Only.refl _ _⟩, G3⟩
  case round =>
    obtain ⟨k, rfl, HKQ, HO, HR⟩ := hrel
    have UR := Aside0.mk ((HO.out.block gu (Ne.symm NN.out.2.2.2.1)).trans UU.out)
    obtain ⟨u0, u1, u2, u3, u4⟩ := rec_cells UR.out
    clear u0 u1 u2 u4
    by_cases hlt : k < l.length
    case pos =>
      have hgd : decide (k < l.length) = true := decide_eq_true hlt
      obtain ⟨_, hGe, _⟩ : 0 < l.length ∧ G = some ⟨gG, 0, none⟩ ∧ gG < wn.heap.size := by
        rcases G2.out with ⟨h, _⟩ | h
        · omega
        · exact h
      subst hGe
      obtain ⟨x, hx, hfz⟩ := rowAt_cell HR.out hlt
      have HS := Aside0.mk (rowAt_set HR.out k (Go.bits .xor .u8 x 255))
      have HS2 := Aside0.mk (only_trans HO.out (only_setCell wr ⟨gG, k, none⟩ (.int .u8 (Go.bits .xor .u8 x 255))))
      go_wp2_with fail
      go_roundg (gk - 1)
      case measure => have := HKQ.out; omega
      case rel => exact ⟨k + 1, by go_num, ⟨by have := HKQ.out; omega⟩, HS2, HS⟩
    have hge : decide (k < l.length) = false := decide_eq_false hlt
    have hge2 : l.length ≤ k := by omega
    clear hlt
    go_wp2_with fail
    clear u3 hge hge2
    obtain ⟨wq, hwq⟩ : ∃ w', w' = wr := ⟨_, rfl⟩
    subst hwq
    have XR := Aside0.mk (rowAt_kept X3.out (fun hp => HO.out.block gX (NN.out.2.1 hp)))
    have KR := Aside0.mk (HO.out.below KK.out (by have h1 := NN.out.2.2.2.2.1; have h2 := LV.out; omega))
    have PR := Aside0.mk ((HO.out.block w.heap.size (by have h1 := NN.out.2.2.2.2.1; have h2 := LV.out; omega)).trans PP.out)
    have VR := Aside0.mk ((HO.out.block gv (by have h1 := NN.out.2.2.2.2.1; omega)).trans VV.out)
    have WR := Aside0.mk (own_kept WW.out (fun g h1 h2 => HO.out.block g (NN.out.2.2.2.2.2 g h1 h2).1))
    go_loopg [99] r.length (fun q i ws => ∃ k : Nat, i = .int .i64 k ∧ Aside0 (k + q = r.length) ∧ Aside0 (Only gX wq ws) ∧ Aside0 (RowAt ws gX r.length))
    case atStart => exact ⟨0, rfl, ⟨by omega⟩, ⟨Only.refl _ _⟩, XR⟩
    case round =>
      obtain ⟨k2, rfl, HKQ2, HO2, HR2⟩ := hrel
      by_cases hlt : k2 < r.length
      case pos =>
        have HN := Aside0.mk (step_q HKQ2.out hlt)
        have hrI : (r.length : Int) ≤ 9223372036854775807 := by have := XX.out.C.2.1; omega
        have hgd : decide (k2 < r.length) = true := decide_eq_true hlt
        obtain ⟨_, hXe, _⟩ : 0 < r.length ∧ X = some ⟨gX, 0, none⟩ ∧ gX < wn.heap.size := by
          rcases X2.out with ⟨h, _⟩ | h
          · omega
          · exact h
        subst hXe
        obtain ⟨x, hx, hfz⟩ := rowAt_cell HR2.out hlt
        have HS := Aside0.mk (rowAt_set HR2.out k2 (Go.bits .xor .u8 x 255))
        have HS2 := Aside0.mk (only_trans HO2.out (only_setCell wr ⟨gX, k2, none⟩ (.int .u8 (Go.bits .xor .u8 x 255))))
        go_wp2_with fail
        go_roundg (gk - 1)
        case measure => exact step_m HKQ2.out hlt
        case rel => exact ⟨k2 + 1, by go_num, HN, HS2, HS⟩
      have hge : decide (k2 < r.length) = false := decide_eq_false hlt
      have hge2 : r.length ≤ k2 := by omega
      clear hlt
      have KF := Aside0.mk (HO2.out.below KR.out (by have h1 := NN.out.1; have h2 := LV.out; omega))
      have PF := Aside0.mk ((HO2.out.block w.heap.size (by have h1 := NN.out.1; have h2 := LV.out; omega)).trans PR.out)
      have VF := Aside0.mk ((HO2.out.block gv (Ne.symm NN.out.2.2.1)).trans VR.out)
      have WF := Aside0.mk (own_kept WR.out (fun g h1 h2 => HO2.out.block g (NN.out.2.2.2.2.2 g h1 h2).2))
      have CF := Aside0.mk (Kd.C_below HC0.out KF.out)
      obtain ⟨p0, p1, p2, p3, p4⟩ := rec_cells PF.out
      obtain ⟨v0, v1, v2, v3, v4⟩ := rec_cells VF.out
      go_wp2_with fail
      refine (rsame_c a0 a1 a2 a4 a0 a1 a2 a4 CF.out CA.out WF.out.C WF.out.cap LB.out LB.out (rec_self a0 a1 a2 a4 l)).mono ?_
      rintro e wz ⟨rfl, hbz⟩
      have KZ := Aside0.mk (KF.out.trans (hbz.mono KF.out.size))
      clear hbz
      go_wp2_with fail
      go_ret
      exact ⟨by simp, KZ.out⟩
theorem RecordWritesR (w : World) (x0 : Int) (_ : (Lit.int .i64 x0).wf = true) (a0 : Int) (_ : (Lit.int .i64 a0).wf = true) (a1 : Int) (_ : (Lit.int .i64 a1).wf = true) (a2 : Int) (_ : (Lit.int .i64 a2).wf = true) (A : Option Addr) (ca : Nat) (l : List Int) (hwl : ∀ x ∈ l, (Lit.int .u8 x).wf = true) (hzl : l.length * 1 ≤ 140737488351232) (hCl : Kd.C (Kd.int .u8) w A l.length l) (hcl : l.length ≤ ca) (a4 : Int) (_ : (Lit.int .i64 a4).wf = true) (b0 : Int) (_ : (Lit.int .i64 b0).wf = true) (b1 : Int) (_ : (Lit.int .i64 b1).wf = true) (b2 : Int) (_ : (Lit.int .i64 b2).wf = true) (B : Option Addr) (cb : Nat) (m : List Int) (hwm : ∀ x ∈ m, (Lit.int .u8 x).wf = true) (hzm : m.length * 1 ≤ 140737488351232) (hCm : Kd.C (Kd.int .u8) w B m.length m) (hcm : m.length ≤ cb) (b4 : Int) (_ : (Lit.int .i64 b4).wf = true) :
    Calls Try.prog 4 #[.int .i64 x0, .agg #[.int .i64 a0, .int .i64 a1, .int .i64 a2, .slice A l.length ca, .int .i64 a4], .agg #[.int .i64 b0, .int .i64 b1, .int .i64 b2, .slice B m.length cb, .int .i64 b4]] w fun e w' => e = .returned (.bool true) ∧ Below w.heap.size w w' :=
  RecordWrites w x0 a0 a1 a2 A ca l a4 b0 b1 b2 B cb m b4 (bytes_wf hwl) (by omega) hCl hcl (bytes_wf hwm) (by omega) hCm hcm
end Go.Proofs.Ytglgndeoldgjbaa.Pure
