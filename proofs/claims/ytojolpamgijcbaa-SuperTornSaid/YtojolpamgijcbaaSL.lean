/- Supers and their blocks, whole: what is written and what is read, by the code and by the document's answer. -/
import Derived.Test.YtojolpamgijcbaaRPS
namespace Go.Proofs.Ytojolpamgijcbaa.Pure
open Go.RowKit Go.Proofs.Ytojolpamgijcbaa Go.Proofs.Ytojolpamgijcbaa.PAll Go.Proofs.Ytojolpamgijcbaa.PGt Go.Proofs.Ytojolpamgijcbaa.Mem Go.Proofs.YtojolpamgijcbaaW.PrintWords Go.Proofs.YtojolpamgijcbaaW.PrintLast Go.Proofs.YtojolpamgijcbaaW.PrintMore
set_option linter.unusedVariables false
set_option linter.unusedSimpArgs false

def supR (ck a0 a1 a2 a3 a4 a5 : Int) : List Int := if ck = 0 then supB a0 a1 a2 a3 a4 a5 else []
theorem supR_bytes (ck a0 a1 a2 a3 a4 a5 : Int) : Bytes (supR ck a0 a1 a2 a3 a4 a5) := by
  unfold supR
  split
  · exact supB_bytes _ _ _ _ _ _
  · exact fun x hx => by cases hx
theorem sbytes_c {w : World} {a0 a1 a2 a3 a4 a5 ck : Int} (h : super_Check.f a0 a1 a2 a3 a4 a5 = some ck) : Calls Try.prog 17 #[.agg #[.int .i64 a0, .int .i64 a1, .int .i64 a2, .int .i64 a3, .int .i64 a4, .int .i64 a5]] w fun e w' => ∃ B d, e = .returned (.tuple #[.slice B (supR ck a0 a1 a2 a3 a4 a5).length d, .int .i64 ck]) ∧ Own w' w.heap.size B d (supR ck a0 a1 a2 a3 a4 a5) ∧ Below w.heap.size w w' := by
  unfold supR
  by_cases h0 : ck = 0
  · subst h0
    rw [if_pos rfl, supB_length]
    exact sbytes_ok w a0 a1 a2 a3 a4 a5 h
  · rw [if_neg h0]
    refine (sbytes_no w a0 a1 a2 a3 a4 a5 ck h h0).mono ?_
    rintro e w' ⟨rfl, hb⟩
    exact ⟨none, 0, rfl, own_nil _ _, hb⟩
theorem rsbytes_c {w : World} {a0 a1 a2 a3 a4 a5 ck : Int} (h : super_Check.f a0 a1 a2 a3 a4 a5 = some ck) (h2 : atticref05_Check.f 1 a0 a1 a2 a3 a4 a5 = some ck) : Calls Try.prog 18 #[.agg #[.int .i64 a0, .int .i64 a1, .int .i64 a2, .int .i64 a3, .int .i64 a4, .int .i64 a5]] w fun e w' => ∃ B d, e = .returned (.tuple #[.slice B (supR ck a0 a1 a2 a3 a4 a5).length d, .int .i64 ck]) ∧ Own w' w.heap.size B d (supR ck a0 a1 a2 a3 a4 a5) ∧ Below w.heap.size w w' := by
  unfold supR
  by_cases h0 : ck = 0
  · subst h0
    rw [if_pos rfl, supB_length]
    exact rsbytes_ok w a0 a1 a2 a3 a4 a5 h2 h
  · rw [if_neg h0]
    refine (rsbytes_no w a0 a1 a2 a3 a4 a5 ck h2 h0).mono ?_
    rintro e w' ⟨rfl, hb⟩
    exact ⟨none, 0, rfl, own_nil _ _, hb⟩
theorem get_mid {l a b : List Int} {p n v : Nat} (h : l = a ++ (numL n v ++ b)) (hp : a.length = p) : getL l p n = v % 256 ^ n := by
  unfold getL
  rw [h, List.drop_left' hp, List.take_left' (numL_length n v), gnum_numL]
theorem supB_get {a0 a1 a2 a3 a4 a5 : Int} (h : super_Check.f a0 a1 a2 a3 a4 a5 = some 0) : wrap64 (getL (supB a0 a1 a2 a3 a4 a5) 8 8 : Int) = a0 ∧ wrap64 (getL (supB a0 a1 a2 a3 a4 a5) 16 4 : Int) = a1 ∧ wrap64 (getL (supB a0 a1 a2 a3 a4 a5) 20 4 : Int) = a2 ∧ wrap64 (getL (supB a0 a1 a2 a3 a4 a5) 24 4 : Int) = a3 ∧ wrap64 (getL (supB a0 a1 a2 a3 a4 a5) 28 4 : Int) = a4 ∧ wrap64 (getL (supB a0 a1 a2 a3 a4 a5) 32 8 : Int) = a5 := by
  obtain ⟨n0, n1, n2, n3, n4, n5⟩ := sup_nn h
  obtain ⟨hg, e1, e2, e3, e4⟩ := chk_ok h
  obtain ⟨g1, g2, g3, g4, g5, g6, g7, _⟩ := check_ok hg
  have lm : magic.length = 8 := rfl
  have p8 : (256 : Nat) ^ 8 = 18446744073709551616 := by decide
  have p4 : (256 : Nat) ^ 4 = 4294967296 := by decide
  have hm : ∀ {v n : Nat}, v < 256 ^ n → v % 256 ^ n = v := fun h => Nat.mod_eq_of_lt h
  obtain ⟨rest, hr⟩ : ∃ r, supB a0 a1 a2 a3 a4 a5 = magic ++ (numL 8 a0.toNat ++ (numL 4 a1.toNat ++ (numL 4 a2.toNat ++ (numL 4 a3.toNat ++ (numL 4 a4.toNat ++ (numL 8 a5.toNat ++ r)))))) := ⟨List.replicate 20 0 ++ (numL 4 (crcSum (supS a0 a1 a2 a3 a4 a5)) ++ List.replicate 192 0), by simp only [supB, sealA, supS, supHd, List.append_assoc]⟩
  rw [hr]
  refine ⟨?_, ?_, ?_, ?_, ?_, ?_⟩
  · rw [get_mid (v := a0.toNat) (a := magic) rfl lm, hm (by omega), w64id (by omega) (by omega)]; omega
  · rw [get_mid (v := a1.toNat) (a := magic ++ numL 8 a0.toNat) (by simp only [List.append_assoc]; rfl) (by rw [List.length_append, numL_length, lm]), hm (by omega), w64id (by omega) (by omega)]; omega
  · rw [get_mid (v := a2.toNat) (a := magic ++ (numL 8 a0.toNat ++ numL 4 a1.toNat)) (by simp only [List.append_assoc]; rfl) (by simp only [List.length_append, numL_length, lm]), hm (by omega), w64id (by omega) (by omega)]; omega
  · rw [get_mid (v := a3.toNat) (a := magic ++ (numL 8 a0.toNat ++ (numL 4 a1.toNat ++ numL 4 a2.toNat))) (by simp only [List.append_assoc]; rfl) (by simp only [List.length_append, numL_length, lm]), hm (by omega), w64id (by omega) (by omega)]; omega
  · rw [get_mid (v := a4.toNat) (a := magic ++ (numL 8 a0.toNat ++ (numL 4 a1.toNat ++ (numL 4 a2.toNat ++ numL 4 a3.toNat)))) (by simp only [List.append_assoc]; rfl) (by simp only [List.length_append, numL_length, lm]), hm (by omega), w64id (by omega) (by omega)]; omega
  · rw [get_mid (v := a5.toNat) (a := magic ++ (numL 8 a0.toNat ++ (numL 4 a1.toNat ++ (numL 4 a2.toNat ++ (numL 4 a3.toNat ++ numL 4 a4.toNat))))) (by simp only [List.append_assoc]; rfl) (by simp only [List.length_append, numL_length, lm]), hm (by omega), w64id (by omega) (by omega)]; omega
/-- What is read of a block. -/
def PS (l : List Int) (y0 y1 y2 y3 y4 y5 ey : Int) : Prop :=
  (ey = 0 ∧ super_Check.f y0 y1 y2 y3 y4 y5 = some 0 ∧ supB y0 y1 y2 y3 y4 y5 = l) ∨ (ey = 50 ∧ y0 = 0 ∧ y1 = 0 ∧ y2 = 0 ∧ y3 = 0 ∧ y4 = 0 ∧ y5 = 0 ∧ ∀ x0 x1 x2 x3 x4 x5, super_Check.f x0 x1 x2 x3 x4 x5 = some 0 → supB x0 x1 x2 x3 x4 x5 ≠ l)
/-- That what is read of l is so, by the code and by the document's answer. -/
structure Reads2 (l : List Int) (y0 y1 y2 y3 y4 y5 ey : Int) : Prop where
  code : ∀ {w : World} {A : Option Addr} {c : Nat}, Kd.C (Kd.int .u8) w A l.length l → l.length ≤ c → Calls Try.prog 19 #[.slice A l.length c] w fun e w' => e = .returned (.tuple #[.agg #[.int .i64 y0, .int .i64 y1, .int .i64 y2, .int .i64 y3, .int .i64 y4, .int .i64 y5], .int .i64 ey]) ∧ Below w.heap.size w w'
  ref : ∀ {w : World} {A : Option Addr} {c : Nat}, Kd.C (Kd.int .u8) w A l.length l → l.length ≤ c → Calls Try.prog 20 #[.slice A l.length c] w fun e w' => e = .returned (.tuple #[.agg #[.int .i64 y0, .int .i64 y1, .int .i64 y2, .int .i64 y3, .int .i64 y4, .int .i64 y5], .int .i64 ey]) ∧ Below w.heap.size w w'
theorem parse_all (l : List Int) (hb : Bytes l) (hlm : l.length ≤ 140737488351232) : ∃ y0 y1 y2 y3 y4 y5 ey, PS l y0 y1 y2 y3 y4 y5 ey ∧ Reads2 l y0 y1 y2 y3 y4 y5 ey := by
  by_cases hl : l.length = 256
  case neg =>
    refine ⟨0, 0, 0, 0, 0, 0, 50, .inr ⟨rfl, rfl, rfl, rfl, rfl, rfl, rfl, fun x0 x1 x2 x3 x4 x5 _ h => hl (by rw [← h, supB_length])⟩, fun _ _ => parse_len hl hlm, fun _ _ => rparse_len hl hlm⟩
  obtain ⟨x0, h0⟩ : ∃ x, wrap64 (getL l 8 8 : Int) = x := ⟨_, rfl⟩
  obtain ⟨x1, h1⟩ : ∃ x, wrap64 (getL l 16 4 : Int) = x := ⟨_, rfl⟩
  obtain ⟨x2, h2⟩ : ∃ x, wrap64 (getL l 20 4 : Int) = x := ⟨_, rfl⟩
  obtain ⟨x3, h3⟩ : ∃ x, wrap64 (getL l 24 4 : Int) = x := ⟨_, rfl⟩
  obtain ⟨x4, h4⟩ : ∃ x, wrap64 (getL l 28 4 : Int) = x := ⟨_, rfl⟩
  obtain ⟨x5, h5⟩ : ∃ x, wrap64 (getL l 32 8 : Int) = x := ⟨_, rfl⟩
  obtain ⟨ck, hc1, hc2⟩ := chk_eq 1 x0 x1 x2 x3 x4 x5 (by decide)
  by_cases hq : ck = 0 ∧ supB x0 x1 x2 x3 x4 x5 = l
  · refine ⟨x0, x1, x2, x3, x4, x5, 0, .inl ⟨rfl, by rw [hc1, hq.1], hq.2⟩, fun hC hc => ?_, fun hC hc => ?_⟩
    · exact parse_c hC hc hb hl _ _ _ _ _ _ h0 h1 h2 h3 h4 h5 ck hc1 _ _ _ _ _ _ _ (.inl ⟨hq.1, hq.2, rfl, rfl, rfl, rfl, rfl, rfl, rfl⟩)
    · exact rparse_c hC hc hb hl _ _ _ _ _ _ h0 h1 h2 h3 h4 h5 ck hc2 hc1 _ _ _ _ _ _ _ (.inl ⟨hq.1, hq.2, rfl, rfl, rfl, rfl, rfl, rfl, rfl⟩)
  · refine ⟨0, 0, 0, 0, 0, 0, 50, .inr ⟨rfl, rfl, rfl, rfl, rfl, rfl, rfl, fun z0 z1 z2 z3 z4 z5 hz he => hq ?_⟩, fun hC hc => ?_, fun hC hc => ?_⟩
    · obtain ⟨e0, e1, e2, e3, e4, e5⟩ := supB_get hz
      rw [he] at e0 e1 e2 e3 e4 e5
      rw [h0] at e0; rw [h1] at e1; rw [h2] at e2; rw [h3] at e3; rw [h4] at e4; rw [h5] at e5
      subst e0 e1 e2 e3 e4 e5
      rw [hz] at hc1
      exact ⟨(Option.some.inj hc1).symm, he⟩
    · exact parse_c hC hc hb hl _ _ _ _ _ _ h0 h1 h2 h3 h4 h5 ck hc1 _ _ _ _ _ _ _ (.inr ⟨hq, rfl, rfl, rfl, rfl, rfl, rfl, rfl⟩)
    · exact rparse_c hC hc hb hl _ _ _ _ _ _ h0 h1 h2 h3 h4 h5 ck hc2 hc1 _ _ _ _ _ _ _ (.inr ⟨hq, rfl, rfl, rfl, rfl, rfl, rfl, rfl⟩)
theorem eqself_c {w : World} {A B : Option Addr} {c d : Nat} {l : List Int} (hC : Kd.C (Kd.int .u8) w A l.length l) (hc : l.length ≤ c) (hD : Kd.C (Kd.int .u8) w B l.length l) (hd : l.length ≤ d) :
    Calls Try.prog 21 #[.slice A l.length c, .slice B l.length d] w fun e w' => e = .returned (.bool true) ∧ Below w.heap.size w w' :=
  equal_c hC hc hD hd (by unfold bytes_Equal.f; simp)
theorem live_c (w : World) : Calls Try.prog 12 #[] w fun e w' => e = .returned (.bool true) ∧ Below w.heap.size w w' := atticlaw05_live.calls 3 true w live_true
end Go.Proofs.Ytojolpamgijcbaa.Pure
