/- SetData and SetPtr: what each hands back lies in memory of its own. -/
import Derived.Test.YtckdnkiacnonkaaSetLaws
namespace Go.Proofs.Ytckdnkiacnonkaa.Pure
open Go.RowKit Go.Proofs.Ytckdnkiacnonkaa.PAll Go.Proofs.Ytckdnkiacnonkaa.Mem Go.Proofs.YtckdnkiacnonkaaW.PrintWords Go.Proofs.YtckdnkiacnonkaaW.PrintLast Go.Proofs.YtckdnkiacnonkaaW.PrintMore
set_option linter.unusedVariables false
set_option linter.unusedSimpArgs false

/-- A row and an error; the row is the call's own. -/
def Gives2F (w : World) (r : List Int) (n : Int) (e : Ending) (w' : World) : Prop := ∃ A c, e = .returned (.tuple #[.slice A r.length c, .int .i64 n]) ∧ r.length ≤ c ∧ (∀ W', Kept w' W' (fun k => k < w.heap.size) → Kd.C (Kd.int .u8) W' A r.length r) ∧ Below w.heap.size w w'
section
variable {A : Option Addr} {c : Nat} {l : List Int} {w : World} (hC : Kd.C (Kd.int .u8) w A l.length l) (hc : l.length ≤ c) (hb : Bytes l) (hl : l.length ≤ 140737488351232)
include hC hc hb hl
set_option maxRecDepth 100000 in
set_option maxHeartbeats 4000000 in
theorem SetPtr_f {i : Int} (u : Nat) {r : List Int} {n : Int} (hr : SP l i (u : Int) = (r, n)) : Calls Try.prog 22 #[.slice A l.length c, .int .i64 i, .int .u64 (u : Int)] w (Gives2F w r n) := by
  have CL := Aside0.mk (show bytes_Clone.f l = some l by unfold bytes_Clone.f; rw [if_pos (by omega)])
  have HC := Aside0.mk hC
  have HD := Aside0.mk hc
  have HB := Aside0.mk hb
  have HL := Aside0.mk hl
  have HR := Aside0.mk hr
  clear hC hc hb hl hr
  go_enter Try.func22, Try.ntmps22
  go_wp2_with fail
  refine (bytes_Clone.calls A c l _ w HC.out HD.out CL.out).mono ?_
  rintro e w1 ⟨v, rfl, ho, hb1⟩
  have hr := HR.out
  unfold SP at hr
  by_cases h : IsObj l
  case neg =>
    rw [if_neg h] at hr
    injection hr with hr hn
    subst hr hn
    obtain ⟨V, vc, rfl, hvc, hvC⟩ := Kd.R_reads ho
    have P := Aside0.mk (pointer_no hvC hvc HB.out HL.out h i)
    have K1 := Aside0.mk hb1
    clear ho hb1 h hvc hvC HR
    go_wp2_with fail
    refine P.out.mono ?_
    rintro e w2 ⟨rfl, hb2⟩
    have K2 := Aside0.mk (K1.out.trans (hb2.mono K1.out.size))
    clear hb2
    go_wp2_with fail
    go_ret2
    exact ⟨none, 0, rfl, Nat.le_refl _, fun _ _ => Kd.C_nil _ _, K2.out⟩
  rw [if_pos h] at hr
  by_cases hi : i < 0 ∨ i ≥ (pn l : Int)
  · rw [if_pos hi] at hr
    injection hr with hr hn
    subst hr hn
    obtain ⟨V, vc, rfl, hvc, hvC⟩ := Kd.R_reads ho
    have P := Aside0.mk (pointer_out hvC hvc HB.out HL.out h i hi)
    have K1 := Aside0.mk hb1
    clear ho hb1 h hi hvc hvC HR
    go_wp2_with fail
    refine P.out.mono ?_
    rintro e w2 ⟨rfl, hb2⟩
    have K2 := Aside0.mk (K1.out.trans (hb2.mono K1.out.size))
    clear hb2
    go_wp2_with fail
    go_ret2
    exact ⟨none, 0, rfl, Nat.le_refl _, fun _ _ => Kd.C_nil _ _, K2.out⟩
  rw [if_neg hi] at hr
  obtain ⟨p, rfl⟩ := Int.eq_ofNat_of_zero_le (show 0 ≤ i by omega)
  rw [Int.toNat_natCast, Int.toNat_natCast] at hr
  injection hr with hr hn
  subst hr hn
  obtain ⟨e1, e2, e3, e4⟩ := h.pn
  obtain ⟨g, cap, cur, rfl, hg, _, hh, hlc, hcm, hcl, hct⟩ := row_blk (h1 := fun _ => rfl) (enc := Value.int .u8) ho (by omega)
  have hvC : Kd.C (Kd.int .u8) w1 (some ⟨g, 0, none⟩) l.length l := blk_C (o := 0) hh (by simpa using hct) (by omega)
  obtain ⟨off, hoff⟩ : ∃ off, off = 16 + 8 * p := ⟨_, rfl⟩
  have P2 := pointer_yes hvC hlc HB.out HL.out h p off (by omega) hoff
  have hcut : cutA (some ⟨g, 0, none⟩) off (off + 8) = some ⟨g, off, none⟩ := by
    unfold cutA
    rw [if_neg (by omega), Option.map_some, add_at, Nat.zero_add]
  obtain ⟨D, hD⟩ : ∃ D : Option Addr, D = some ⟨g, off, none⟩ := ⟨_, rfl⟩
  rw [hcut, ← hD] at P2
  have HDD := Aside0.mk hD
  rw [← hoff]
  obtain ⟨x, hx⟩ : ∃ x, x = numL 8 u := ⟨_, rfl⟩
  have hxl : x.length = 8 := by rw [hx, numL_length]
  have NF := Aside0.mk (show word_Num.f 10 8 (u : Int) = some x by rw [num_f 10 8 u (by decide), if_neg (by decide), hx]; rfl)
  rw [← hx]
  obtain ⟨cs, hcs⟩ : ∃ cs, cs = encs (Value.int .u8) x := ⟨_, rfl⟩
  have A1 := Aside0.mk (show cs.length = 8 by rw [hcs, encs_length, hxl])
  have A4 := Aside0.mk (show off + cs.length ≤ cur.length by rw [A1.out, hcl]; omega)
  have A5 := Aside0.mk (show ∀ v ∈ cs, v.oneCell' = true by rw [hcs]; exact encs_one x (fun _ => rfl))
  have A6 := Aside0.mk (show (splice cur off cs).take l.length = encs (Value.int .u8) (over l off x) by rw [hcs]; exact splice_take hct (by omega) (by omega))
  have A7 := Aside0.mk (show (over l off x).length = l.length from over_length (by omega))
  have XL := Aside0.mk hxl
  have HXE := Aside0.mk hx
  have HOE := Aside0.mk hoff
  have HCS := Aside0.mk hcs
  have P := Aside0.mk P2
  have K1 := Aside0.mk hb1
  have HG := Aside0.mk hg
  have HH := Aside0.mk hh
  have HLC := Aside0.mk hlc
  clear hD ho hb1 h hi hvC P2 hg hh hct hlc hcl hcm e1 e2 e3 e4 hcut hx hxl hcs hoff HR
  go_wp2_with fail
  refine P.out.mono ?_
  rintro e w2 ⟨rfl, hb2⟩
  have K2 := Aside0.mk (K1.out.trans (hb2.mono K1.out.size))
  have H2 := Aside0.mk ((hb2.block g (blk_lt HH.out)).trans HH.out)
  clear hb2 P
  go_wp2_with fail
  refine (word_Num.calls 10 8 (u : Int) x w2 NF.out).mono ?_
  rintro e w3 ⟨v3, rfl, ho3, hb3⟩
  obtain ⟨V, vc, rfl, hvc, hvC⟩ := Kd.R_reads ho3
  have K3 := Aside0.mk (K2.out.trans (hb3.mono K2.out.size))
  have H3 := Aside0.mk ((hb3.block g (blk_lt H2.out)).trans H2.out)
  have A2 := Aside0.mk (show cs.length = Nat.min x.length 8 by rw [A1.out, XL.out]; rfl)
  have A3 := Aside0.mk (show 0 < cs.length → D = some ⟨g, off, none⟩ ∧ ∃ ad, V = some ad ∧ ∀ j v, cs[j]? = some v → w3.cell? (ad.add j) = some v by
    intro h0
    obtain ⟨ad, ha, hcell⟩ := C_cells (enc := Value.int .u8) (h1 := fun _ => rfl) hvC x.length (Nat.le_refl _) (by rw [XL.out]; decide)
    rw [List.take_length, ← HCS.out] at hcell
    exact ⟨HDD.out, ad, ha, hcell⟩)
  clear ho3 hb3 hvc hvC
  go_wp2_with (with_reducible refine wpList_copy_splice rfl (.tmp 22) (.tmp 24) 24 24 rfl 5 Try.underlying24 info5s D V 8 8 x.length vc rfl rfl g off cur 5 H3.out cs A2.out A3.out A4.out A5.out w.heap.size w K3.out HG.out ?_; intro w4 hg4 hb4)
  go_ret2
  obtain rfl := HXE.out
  obtain rfl := HOE.out
  refine ⟨some ⟨g, 0, none⟩, cap, by rw [A7.out]; rfl, by rw [A7.out]; exact HLC.out, fun W' hk => ?_, hb4⟩
  refine blk_C (o := 0) ((hk.2 g (blk_lt hg4.out) (by have := HG.out; omega)).trans hg4.out) ?_ (by rw [A7.out]; have := HL.out; omega)
  rw [List.drop_zero, A7.out]
  exact A6.out
variable {A2 : Option Addr} {c2 : Nat} {x : List Int} (hC2 : Kd.C (Kd.int .u8) w A2 x.length x) (hc2 : x.length ≤ c2) (hx : x.length ≤ 140737488351232)
include hC2 hc2 hx
set_option maxRecDepth 100000 in
set_option maxHeartbeats 4000000 in
theorem SetData_f {i : Int} {r : List Int} {n : Int} (hr : SD l i x = (r, n)) : Calls Try.prog 18 #[.slice A l.length c, .int .i64 i, .slice A2 x.length c2] w (Gives2F w r n) := by
  have CL := Aside0.mk (show bytes_Clone.f l = some l by unfold bytes_Clone.f; rw [if_pos (by omega)])
  have HC := Aside0.mk hC
  have HD := Aside0.mk hc
  have HC2 := Aside0.mk hC2
  have HD2 := Aside0.mk hc2
  have HB := Aside0.mk hb
  have HL := Aside0.mk hl
  have HX := Aside0.mk hx
  have HR := Aside0.mk hr
  clear hC hc hb hl hC2 hc2 hx hr
  go_enter Try.func18, Try.ntmps18
  go_wp2_with fail
  refine (bytes_Clone.calls A c l _ w HC.out HD.out CL.out).mono ?_
  rintro e w1 ⟨v, rfl, ho, hb1⟩
  by_cases h : IsObj l
  case neg =>
    have hr := HR.out
    unfold SD at hr
    rw [if_neg h] at hr
    injection hr with hr hn
    subst hr hn
    obtain ⟨V, vc, rfl, hvc, hvC⟩ := Kd.R_reads ho
    have P := Aside0.mk (data_no hvC hvc HB.out HL.out h)
    have K1 := Aside0.mk hb1
    clear ho hb1 h hvc hvC HR
    go_wp2_with fail
    refine P.out.mono ?_
    rintro e w2 ⟨rfl, hb2⟩
    have K2 := Aside0.mk (K1.out.trans (hb2.mono K1.out.size))
    clear hb2
    go_wp2_with fail
    go_ret2
    exact ⟨none, 0, rfl, Nat.le_refl _, fun _ _ => Kd.C_nil _ _, K2.out⟩
  obtain ⟨e1, e2, e3, e4, e5, e6, e7⟩ := h.nums
  obtain ⟨g, cap, cur, rfl, hg, _, hh, hlc, hcm, hcl, hct⟩ := row_blk (h1 := fun _ => rfl) (enc := Value.int .u8) ho (by omega)
  have hvC : Kd.C (Kd.int .u8) w1 (some ⟨g, 0, none⟩) l.length l := blk_C (o := 0) hh (by simpa using hct) (by omega)
  have P2 := data_x hvC hlc HB.out HL.out h
  obtain ⟨m, hm⟩ : ∃ m, m = (dX l).length := ⟨_, rfl⟩
  obtain ⟨B, hB⟩ : ∃ B, B = cutA (some ⟨g, 0, none⟩) (dfr l) (dfr l + dn l) := ⟨_, rfl⟩
  rw [← hm, ← hB] at P2
  have P := Aside0.mk P2
  have K1 := Aside0.mk hb1
  have X1 := Aside0.mk (Kd.C_below HC2.out hb1)
  have HG := Aside0.mk hg
  have HH := Aside0.mk hh
  have hm2 : m ≤ 1024 := by omega
  have HM := Aside0.mk hm
  have HBB := Aside0.mk hB
  have HOB := Aside0.mk h
  have HT := Aside0.mk hct
  have HLC := Aside0.mk hlc
  have HCL := Aside0.mk hcl
  have hxx := HX.out
  clear ho hb1 h hvC P2 hm hB hg hh hct hlc hcl hcm e1 e2 e3 e4 e5 e6 e7
  go_wp2_with fail
  refine P.out.mono ?_
  rintro e w2 ⟨rfl, hb2⟩
  have K2 := Aside0.mk (K1.out.trans (hb2.mono K1.out.size))
  have X2 := Aside0.mk (Kd.C_below X1.out hb2)
  have H2 := Aside0.mk ((hb2.block g (blk_lt HH.out)).trans HH.out)
  clear hb2 P
  by_cases hbad : i < 0 ∨ i > (m : Int) ∨ (x.length : Int) > (m : Int) - i
  case pos =>
    have hr := HR.out
    unfold SD at hr
    rw [if_pos HOB.out, ← HOB.out.nums.2.2.2.2.2.2, ← HM.out, if_pos hbad] at hr
    injection hr with hr hn
    subst hr hn
    have fin : Gives2F w [] 131 (.returned (.tuple #[.slice none 0 0, .int .i64 131])) w2 := ⟨none, 0, rfl, Nat.le_refl _, fun _ _ => Kd.C_nil _ _, K2.out⟩
    have FIN := Aside0.mk fin
    clear fin
    by_cases d0 : i < 0
    · have q0 : decide (i < 0) = true := decide_eq_true d0
      clear hbad d0 HR
      go_wp2_with fail
      go_ret2
      exact FIN.out
    have q0 : decide (i < 0) = false := decide_eq_false d0
    obtain ⟨p, rfl⟩ := Int.eq_ofNat_of_zero_le (show 0 ≤ i by omega)
    by_cases d1 : m < p
    · have q1 : decide ((p : Int) > (m : Int)) = true := decide_eq_true (by omega)
      have q1n : decide (p > m) = true := decide_eq_true d1
      have q1m : decide (m < p) = true := decide_eq_true d1
      clear hbad d0 HR
      go_wp2_with fail
      go_ret2
      exact FIN.out
    have q1 : decide ((p : Int) > (m : Int)) = false := decide_eq_false (by omega)
    have q1n : decide (p > m) = false := decide_eq_false d1
    have q1m : decide (m < p) = false := decide_eq_false d1
    have q2 : decide ((x.length : Int) > (m : Int) - (p : Int)) = true := decide_eq_true (by omega)
    have q3 : p ≤ m := by omega
    clear hbad d0 d1 HR
    go_wp2_with fail
    go_ret2
    exact FIN.out
  obtain ⟨p, rfl⟩ := Int.eq_ofNat_of_zero_le (show 0 ≤ i by omega)
  have hr := HR.out
  unfold SD at hr
  rw [if_pos HOB.out, ← HOB.out.nums.2.2.2.2.2.2, ← HM.out, if_neg hbad, Int.toNat_natCast] at hr
  injection hr with hr hn
  subst hr hn
  have hp : p ≤ m := by omega
  have hxm : x.length ≤ m - p := by omega
  have q0 : decide ((p : Int) < 0) = false := decide_eq_false (by omega)
  have q1 : decide (p > m) = false := decide_eq_false (by omega)
  have q1m : decide (m < p) = false := decide_eq_false (by omega)
  have q1' : decide ((p : Int) > (m : Int)) = false := decide_eq_false (by omega)
  have q2 : decide ((x.length : Int) > (m : Int) - (p : Int)) = false := decide_eq_false (by omega)
  obtain ⟨i5, hi5, hz0, hz1, hz2⟩ := info_parts info5
  obtain ⟨B2, hB2⟩ : ∃ B2, B2 = if m = p then B else B.map (·.add (p * 1)) := ⟨_, rfl⟩
  obtain ⟨rr, hrr⟩ : ∃ rr, rr = m - p := ⟨_, rfl⟩
  have hsl : ∀ W : World, (Instr.slice 24 (.slice B m m) (some (.int .i64 (p : Int))) none none).run Try.prog W = .ok (.slice B2 rr rr) W := by
    intro W
    have := cut_from (P := Try.prog) 24 5 .i64 Try.underlying24 hi5 1 hz1 B m m (p : Int) (by omega) (by omega) W
    rw [this, hB2, hrr, Int.toNat_natCast]
  obtain ⟨off, hoff⟩ : ∃ off, off = dfr l + p := ⟨_, rfl⟩
  obtain ⟨cs, hcs⟩ : ∃ cs, cs = encs (Value.int .u8) x := ⟨_, rfl⟩
  have hcl : cs.length = x.length := by rw [hcs, encs_length]
  have hfit0 : off + x.length ≤ l.length := by have := HOB.out.nums; have := HM.out; omega
  have A1 := Aside0.mk (show cs.length = Nat.min x.length rr by rw [hcl, hrr]; exact (Nat.min_eq_left hxm).symm)
  have A3 := Aside0.mk (show 0 < cs.length → B2 = some ⟨g, off, none⟩ ∧ ∃ ad, A2 = some ad ∧ ∀ j v, cs[j]? = some v → w2.cell? (ad.add j) = some v by
    intro h0
    have hmn := HOB.out.nums.2.2.2.2.2.2
    have hmm := HM.out
    obtain ⟨ad, ha, hcell⟩ := C_cells (enc := Value.int .u8) (h1 := fun _ => rfl) X2.out x.length (Nat.le_refl _) (by omega)
    rw [List.take_length, ← hcs] at hcell
    refine ⟨?_, ad, ha, hcell⟩
    rw [hB2, if_neg (by omega), HBB.out]
    unfold cutA
    rw [if_neg (by omega), Option.map_some, Option.map_some, add_at, add_at, hoff, Nat.mul_one, Nat.zero_add])
  have A4 := Aside0.mk (show off + cs.length ≤ cur.length by rw [hcl, HCL.out]; have := HLC.out; omega)
  have A5 := Aside0.mk (show ∀ v ∈ cs, v.oneCell' = true by rw [hcs]; exact encs_one x (fun _ => rfl))
  have A6 := Aside0.mk (show (splice cur off cs).take l.length = encs (Value.int .u8) (over l off x) by rw [hcs]; exact splice_take HT.out hfit0 (by have := HLC.out; have := HCL.out; omega))
  have A7 := Aside0.mk (show (over l off x).length = l.length from over_length hfit0)
  have HOFF := Aside0.mk hoff
  have hok : p ≤ m := hp
  clear hbad hxm hp hcs hcl hfit0 hoff hB2 hrr
  go_wp2_with (with_reducible refine wpList_copy_splice rfl (.tmp 42) (.tmp 43) 24 24 rfl 5 Try.underlying24 info5s B2 A2 rr rr x.length c2 rfl rfl g off cur 5 H2.out cs A1.out A3.out A4.out A5.out w.heap.size w K2.out HG.out ?_; intro w3 hg3 hb3)
  go_ret2
  obtain rfl := HOFF.out
  refine ⟨some ⟨g, 0, none⟩, cap, by rw [A7.out]; rfl, by rw [A7.out]; exact HLC.out, fun W' hk => ?_, hb3⟩
  refine blk_C (o := 0) ((hk.2 g (blk_lt hg3.out) (by have := HG.out; omega)).trans hg3.out) ?_ (by rw [A7.out]; have := HL.out; omega)
  rw [List.drop_zero, A7.out]
  exact A6.out
end
end Go.Proofs.Ytckdnkiacnonkaa.Pure
