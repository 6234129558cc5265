/- SetPtr: what it hands back. -/
import Derived.Test.YtckdnkiacnonkaaClean4
namespace Go.Proofs.Ytckdnkiacnonkaa.Pure
open Go.RowKit Go.Proofs.Ytckdnkiacnonkaa.PAll Go.Proofs.Ytckdnkiacnonkaa.Mem Go.Proofs.YtckdnkiacnonkaaW.PrintWords Go.Proofs.YtckdnkiacnonkaaW.PrintLast Go.Proofs.YtckdnkiacnonkaaW.PrintMore
set_option linter.unusedVariables false
set_option linter.unusedSimpArgs false

section
variable {A : Option Addr} {c : Nat} {l : List Int} {w : World} (hC : Kd.C (Kd.int .u8) w A l.length l) (hc : l.length ≤ c) (hb : Bytes l) (hl : l.length ≤ 140737488351232)
include hC hc hb hl
set_option maxRecDepth 100000 in
set_option maxHeartbeats 4000000 in
theorem SetPtr_c {i : Int} (u : Nat) {r : List Int} {n : Int} (hr : SP l i (u : Int) = (r, n)) : Calls Try.prog 22 #[.slice A l.length c, .int .i64 i, .int .u64 (u : Int)] w (Gives2 w r n) := by
  have CL := Aside0.mk (show bytes_Clone.f l = some l by unfold bytes_Clone.f; rw [if_pos (by omega)])
  have HC := Aside0.mk hC
  have HD := Aside0.mk hc
  have HB := Aside0.mk hb
  have HL := Aside0.mk hl
  have HR := Aside0.mk hr
  clear hC hc hb hl hr
  go_enter Try.func22, Try.ntmps22
  go_wp2_with fail
  refine (bytes_Clone.calls A c l _ w HC.out HD.out CL.out).mono ?_
  rintro e w1 ⟨v, rfl, ho, hb1⟩
  have hr := HR.out
  unfold SP at hr
  by_cases h : IsObj l
  case neg =>
    rw [if_neg h] at hr
    injection hr with hr hn
    subst hr hn
    obtain ⟨V, vc, rfl, hvc, hvC⟩ := Kd.R_reads ho
    have P := Aside0.mk (pointer_no hvC hvc HB.out HL.out h i)
    have K1 := Aside0.mk hb1
    clear ho hb1 h hvc hvC HR
    go_wp2_with fail
    refine P.out.mono ?_
    rintro e w2 ⟨rfl, hb2⟩
    have K2 := Aside0.mk (K1.out.trans (hb2.mono K1.out.size))
    clear hb2
    go_wp2_with fail
    go_ret2
    exact ⟨none, 0, rfl, Nat.le_refl _, Kd.C_nil _ _, K2.out⟩
  rw [if_pos h] at hr
  by_cases hi : i < 0 ∨ i ≥ (pn l : Int)
  · rw [if_pos hi] at hr
    injection hr with hr hn
    subst hr hn
    obtain ⟨V, vc, rfl, hvc, hvC⟩ := Kd.R_reads ho
    have P := Aside0.mk (pointer_out hvC hvc HB.out HL.out h i hi)
    have K1 := Aside0.mk hb1
    clear ho hb1 h hi hvc hvC HR
    go_wp2_with fail
    refine P.out.mono ?_
    rintro e w2 ⟨rfl, hb2⟩
    have K2 := Aside0.mk (K1.out.trans (hb2.mono K1.out.size))
    clear hb2
    go_wp2_with fail
    go_ret2
    exact ⟨none, 0, rfl, Nat.le_refl _, Kd.C_nil _ _, K2.out⟩
  rw [if_neg hi] at hr
  obtain ⟨p, rfl⟩ := Int.eq_ofNat_of_zero_le (show 0 ≤ i by omega)
  rw [Int.toNat_natCast, Int.toNat_natCast] at hr
  injection hr with hr hn
  subst hr hn
  obtain ⟨e1, e2, e3, e4⟩ := h.pn
  obtain ⟨g, cap, cur, rfl, hg, _, hh, hlc, hcm, hcl, hct⟩ := row_blk (h1 := fun _ => rfl) (enc := Value.int .u8) ho (by omega)
  have hvC : Kd.C (Kd.int .u8) w1 (some ⟨g, 0, none⟩) l.length l := blk_C (o := 0) hh (by simpa using hct) (by omega)
  obtain ⟨off, hoff⟩ : ∃ off, off = 16 + 8 * p := ⟨_, rfl⟩
  have P2 := pointer_yes hvC hlc HB.out HL.out h p off (by omega) hoff
  have hcut : cutA (some ⟨g, 0, none⟩) off (off + 8) = some ⟨g, off, none⟩ := by
    unfold cutA
    rw [if_neg (by omega), Option.map_some, add_at, Nat.zero_add]
  obtain ⟨D, hD⟩ : ∃ D : Option Addr, D = some ⟨g, off, none⟩ := ⟨_, rfl⟩
  rw [hcut, ← hD] at P2
  have HDD := Aside0.mk hD
  rw [← hoff]
  obtain ⟨x, hx⟩ : ∃ x, x = numL 8 u := ⟨_, rfl⟩
  have hxl : x.length = 8 := by rw [hx, numL_length]
  have NF := Aside0.mk (show word_Num.f 10 8 (u : Int) = some x by rw [num_f 10 8 u (by decide), if_neg (by decide), hx]; rfl)
  rw [← hx]
  obtain ⟨cs, hcs⟩ : ∃ cs, cs = encs (Value.int .u8) x := ⟨_, rfl⟩
  have A1 := Aside0.mk (show cs.length = 8 by rw [hcs, encs_length, hxl])
  have A4 := Aside0.mk (show off + cs.length ≤ cur.length by rw [A1.out, hcl]; omega)
  have A5 := Aside0.mk (show ∀ v ∈ cs, v.oneCell' = true by rw [hcs]; exact encs_one x (fun _ => rfl))
  have A6 := Aside0.mk (show (splice cur off cs).take l.length = encs (Value.int .u8) (over l off x) by rw [hcs]; exact splice_take hct (by omega) (by omega))
  have A7 := Aside0.mk (show (over l off x).length = l.length from over_length (by omega))
  have XL := Aside0.mk hxl
  have HXE := Aside0.mk hx
  have HOE := Aside0.mk hoff
  have HCS := Aside0.mk hcs
  have P := Aside0.mk P2
  have K1 := Aside0.mk hb1
  have HG := Aside0.mk hg
  have HH := Aside0.mk hh
  have HLC := Aside0.mk hlc
  clear hD ho hb1 h hi hvC P2 hg hh hct hlc hcl hcm e1 e2 e3 e4 hcut hx hxl hcs hoff HR
  go_wp2_with fail
  refine P.out.mono ?_
  rintro e w2 ⟨rfl, hb2⟩
  have K2 := Aside0.mk (K1.out.trans (hb2.mono K1.out.size))
  have H2 := Aside0.mk ((hb2.block g (blk_lt HH.out)).trans HH.out)
  clear hb2 P
  go_wp2_with fail
  refine (word_Num.calls 10 8 (u : Int) x w2 NF.out).mono ?_
  rintro e w3 ⟨v3, rfl, ho3, hb3⟩
  obtain ⟨V, vc, rfl, hvc, hvC⟩ := Kd.R_reads ho3
  have K3 := Aside0.mk (K2.out.trans (hb3.mono K2.out.size))
  have H3 := Aside0.mk ((hb3.block g (blk_lt H2.out)).trans H2.out)
  have A2 := Aside0.mk (show cs.length = Nat.min x.length 8 by rw [A1.out, XL.out]; rfl)
  have A3 := Aside0.mk (show 0 < cs.length → D = some ⟨g, off, none⟩ ∧ ∃ ad, V = some ad ∧ ∀ j v, cs[j]? = some v → w3.cell? (ad.add j) = some v by
    intro h0
    obtain ⟨ad, ha, hcell⟩ := C_cells (enc := Value.int .u8) (h1 := fun _ => rfl) hvC x.length (Nat.le_refl _) (by rw [XL.out]; decide)
    rw [List.take_length, ← HCS.out] at hcell
    exact ⟨HDD.out, ad, ha, hcell⟩)
  clear ho3 hb3 hvc hvC
  go_wp2_with (with_reducible refine wpList_copy_splice rfl (.tmp 22) (.tmp 24) 24 24 rfl 5 Try.underlying24 info5s D V 8 8 x.length vc rfl rfl g off cur 5 H3.out cs A2.out A3.out A4.out A5.out w.heap.size w K3.out HG.out ?_; intro w4 hg4 hb4)
  go_ret2
  obtain rfl := HXE.out
  obtain rfl := HOE.out
  refine ⟨some ⟨g, 0, none⟩, cap, by rw [A7.out]; rfl, by rw [A7.out]; exact HLC.out, ?_, hb4⟩
  refine blk_C (o := 0) hg4.out ?_ (by rw [A7.out]; have := HL.out; omega)
  rw [List.drop_zero, A7.out]
  exact A6.out
end
end Go.Proofs.Ytckdnkiacnonkaa.Pure
