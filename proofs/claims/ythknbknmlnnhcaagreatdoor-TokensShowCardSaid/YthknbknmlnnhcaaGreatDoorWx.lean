/- Walks: soft.isNaN isInf isNeg; bobbinref3 IsNaN IsInf IsZero Minus Split. -/
import Derived.Test.YthknbknmlnnhcaaGreatDoorWw
import Derived.Test.YthknbknmlnnhcaaGreatDoorM
namespace Go.Proofs.YthknbknmlnnhcaaGreatDoor
open Go.RowKit Go.Proofs.YthknbknmlnnhcaaGreatDoorW.PrintWords Bob
set_option linter.unusedVariables false
set_option linter.unusedSimpArgs false

theorem isNaN_any (w : World) (a : Nat) (h : a < 18446744073709551616) : Calls Tryz.prog 94 #[.int .u64 (a : Int)] w fun e w' => e = .returned (.bool (decide (9218868437227405312 < a % 9223372036854775808))) ∧ w' = w := by
  have h1 := f_abs a h
  go_enter Tryz.func94, Tryz.ntmps94
  go_wp2_with fail
  go_ret
  exact ⟨ret_bool (by rw [decide_eq_decide]; omega), rfl⟩
theorem isInf_any (w : World) (a : Nat) (h : a < 18446744073709551616) : Calls Tryz.prog 95 #[.int .u64 (a : Int)] w fun e w' => e = .returned (.bool (decide (a % 9223372036854775808 = 9218868437227405312))) ∧ w' = w := by
  have h1 := f_abs a h
  go_enter Tryz.func95, Tryz.ntmps95
  go_wp2_with fail
  go_ret
  exact ⟨ret_bool (Bool.eq_iff_iff.2 (by simp; omega)), rfl⟩
theorem isNeg_any (w : World) (a : Nat) (h : a < 18446744073709551616) : Calls Tryz.prog 144 #[.int .u64 (a : Int)] w fun e w' => e = .returned (.bool (decide (9223372036854775808 ≤ a))) ∧ w' = w := by
  go_enter Tryz.func144, Tryz.ntmps144
  go_wp2_with fail
  go_ret
  exact ⟨ret_bool (Bool.eq_iff_iff.2 (by simp; omega)), rfl⟩

theorem rIsNaN_any (w : World) (a : Nat) (h : a < 18446744073709551616) : Calls Tryz.prog 105 #[.int .u64 (a : Int)] w fun e w' => e = .returned (.bool (decide (9218868437227405312 < a % 9223372036854775808))) ∧ w' = w := by
  have h1 := f_abs a h
  go_enter Tryz.func105, Tryz.ntmps105
  go_wp2_with fail
  go_ret
  exact ⟨ret_bool (by rw [decide_eq_decide]; omega), rfl⟩
theorem rIsInf_any (w : World) (a : Nat) (h : a < 18446744073709551616) : Calls Tryz.prog 106 #[.int .u64 (a : Int)] w fun e w' => e = .returned (.bool (decide (a % 9223372036854775808 = 9218868437227405312))) ∧ w' = w := by
  have h1 := f_abs a h
  go_enter Tryz.func106, Tryz.ntmps106
  go_wp2_with fail
  go_ret
  exact ⟨ret_bool (Bool.eq_iff_iff.2 (by simp; omega)), rfl⟩
theorem rIsZero_any (w : World) (a : Nat) (h : a < 18446744073709551616) : Calls Tryz.prog 63 #[.int .u64 (a : Int)] w fun e w' => e = .returned (.bool (decide (a % 9223372036854775808 = 0))) ∧ w' = w := by
  have h1 := f_abs a h
  go_enter Tryz.func63, Tryz.ntmps63
  go_wp2_with fail
  go_ret
  exact ⟨ret_bool (Bool.eq_iff_iff.2 (by simp; omega)), rfl⟩
theorem rMinus_any (w : World) (a : Nat) (h : a < 18446744073709551616) : Calls Tryz.prog 107 #[.int .u64 (a : Int)] w fun e w' => e = .returned (.bool (decide (9223372036854775808 ≤ a))) ∧ w' = w := by
  have h1 := f_sign a h
  by_cases hs : 9223372036854775808 ≤ a
  · rw [if_pos hs] at h1
    go_enter Tryz.func107, Tryz.ntmps107
    go_wp2_with fail
    go_ret
    exact ⟨ret_bool (by rw [decide_eq_true hs]), rfl⟩
  · rw [if_neg hs] at h1
    go_enter Tryz.func107, Tryz.ntmps107
    go_wp2_with fail
    go_ret
    exact ⟨ret_bool (by rw [decide_eq_false hs]), rfl⟩

/-- A float's parts. -/
def fx (a : Nat) : Nat := a / 4503599627370496 % 2048
def fM (a : Nat) : Nat := if fx a = 0 then a % 4503599627370496 else a % 4503599627370496 + 4503599627370496
def fE (a : Nat) : Int := if fx a = 0 then -1074 else (fx a : Int) - 1075
def fNeg (a : Nat) : Bool := decide (9223372036854775808 ≤ a)
def fFin (a : Nat) : Prop := a % 9223372036854775808 < 9218868437227405312
def RetSplit (a : Nat) (w : World) (e : Ending) (w' : World) : Prop :=
  (fFin a → ∃ v', e = .returned (.tuple #[.bool (fNeg a), v', .int .i64 (fE a), .bool true]) ∧ Rd w' v' (words (fM a)) ∧ Below w.heap.size w w') ∧
  (¬ fFin a → e = .returned (.tuple #[.bool false, .slice none 0 0, .int .i64 0, .bool false]) ∧ Below w.heap.size w w')

set_option maxRecDepth 100000 in
set_option maxHeartbeats 800000 in
theorem rSplit_any (w : World) (a : Nat) (h : a < 18446744073709551616) : Calls Tryz.prog 49 #[.int .u64 (a : Int)] w (RetSplit a w) := by
  have H := Aside0.mk h
  by_cases hf : fFin a
  · have h1 : decide (9218868437227405312 < a % 9223372036854775808) = false := decide_eq_false (by unfold fFin at hf; omega)
    have h2 : decide (a % 9223372036854775808 = 9218868437227405312) = false := decide_eq_false (by unfold fFin at hf; omega)
    have h3 := f_frac a h
    obtain ⟨x, hx⟩ : ∃ x, x = fx a := ⟨_, rfl⟩
    have h4 : bits .and .u64 ((a : Int) / 4503599627370496) 2047 = (x : Int) := by
      have := f_exp (a / 4503599627370496) (by omega)
      rw [show ((a / 4503599627370496 : Nat) : Int) = (a : Int) / 4503599627370496 by omega] at this
      rw [this, hx]; rfl
    obtain ⟨m, hm⟩ : ∃ m, m = a % 4503599627370496 := ⟨_, rfl⟩
    rw [← hm] at h3
    have hxb : x < 2048 := by rw [hx]; unfold fx; omega
    have HM := Aside0.mk (show m < 4503599627370496 by omega)
    by_cases hx0 : x = 0
    · have HS := Aside0.mk (show fM a = m ∧ fE a = -1074 by unfold fM fE; rw [← hx, if_pos hx0, if_pos hx0]; exact ⟨hm.symm, rfl⟩)
      clear hm hx
      subst hx0
      go_enter Tryz.func49, Tryz.ntmps49
      go_wp2_with fail
      refine (rIsNaN_any w a H.out).mono ?_
      rw [h1]
      rintro e w1 ⟨rfl, rfl⟩
      go_wp2_with fail
      refine (rIsInf_any w1 a H.out).mono ?_
      rw [h2]
      rintro e w2 ⟨rfl, rfl⟩
      go_wp2_with fail
      refine (rMinus_any w2 a H.out).mono ?_
      rintro e w3 ⟨rfl, rfl⟩
      go_wp2_with fail
      refine (rof_any w3 m (by have := HM.out; omega)).mono ?_
      rintro e w4 ⟨v4, rfl, hr, hb⟩
      go_wp2_with fail
      refine bodyPost_ret (v := .tuple #[.bool (fNeg a), v4, .int .i64 (-1074), .bool true]) (by simp [results, Tryz.results49, go_sem, fNeg]) rfl ?_
      exact ⟨fun _ => ⟨v4, by rw [HS.out.2], by rw [HS.out.1]; exact hr, hb⟩, fun h => absurd hf h⟩
    · have HS := Aside0.mk (show fM a = m + 4503599627370496 ∧ fE a = (x : Int) - 1075 by unfold fM fE; rw [← hx, if_neg hx0, if_neg hx0]; exact ⟨by rw [hm], rfl⟩)
      have h5 := f_hidden m HM.out
      clear hm hx
      go_enter Tryz.func49, Tryz.ntmps49
      go_wp2_with fail
      refine (rIsNaN_any w a H.out).mono ?_
      rw [h1]
      rintro e w1 ⟨rfl, rfl⟩
      go_wp2_with fail
      refine (rIsInf_any w1 a H.out).mono ?_
      rw [h2]
      rintro e w2 ⟨rfl, rfl⟩
      go_wp2_with fail
      refine (rMinus_any w2 a H.out).mono ?_
      rintro e w3 ⟨rfl, rfl⟩
      obtain ⟨m2, hm2⟩ : ∃ m2, m2 = m + 4503599627370496 := ⟨_, rfl⟩
      rw [← hm2] at h5 HS
      have HM2 := Aside0.mk (show m2 < 18446744073709551616 by have := HM.out; omega)
      clear hm2
      go_wp2_with fail
      refine (rof_any w3 m2 HM2.out).mono ?_
      rintro e w4 ⟨v4, rfl, hr, hb⟩
      go_wp2_with fail
      refine bodyPost_ret (v := .tuple #[.bool (fNeg a), v4, .int .i64 ((x : Int) - 1075), .bool true]) (by simp [results, Tryz.results49, go_sem, fNeg]) rfl ?_
      exact ⟨fun _ => ⟨v4, by rw [HS.out.2], by rw [HS.out.1]; exact hr, hb⟩, fun h => absurd hf h⟩
  · by_cases hn : 9218868437227405312 < a % 9223372036854775808
    · have h1 : decide (9218868437227405312 < a % 9223372036854775808) = true := decide_eq_true hn
      go_enter Tryz.func49, Tryz.ntmps49
      go_wp2_with fail
      refine (rIsNaN_any w a H.out).mono ?_
      rw [h1]
      rintro e w1 ⟨rfl, rfl⟩
      go_wp2_with fail
      refine bodyPost_ret (v := .tuple #[.bool false, .slice none 0 0, .int .i64 0, .bool false]) (by simp [results, Tryz.results49, go_sem]) rfl ?_
      exact ⟨fun h => absurd h hf, fun _ => ⟨rfl, Below.refl _ _⟩⟩
    · have h1 : decide (9218868437227405312 < a % 9223372036854775808) = false := decide_eq_false hn
      have h2 : decide (a % 9223372036854775808 = 9218868437227405312) = true := decide_eq_true (by unfold fFin at hf; omega)
      go_enter Tryz.func49, Tryz.ntmps49
      go_wp2_with fail
      refine (rIsNaN_any w a H.out).mono ?_
      rw [h1]
      rintro e w1 ⟨rfl, rfl⟩
      go_wp2_with fail
      refine (rIsInf_any w1 a H.out).mono ?_
      rw [h2]
      rintro e w2 ⟨rfl, rfl⟩
      go_wp2_with fail
      refine bodyPost_ret (v := .tuple #[.bool false, .slice none 0 0, .int .i64 0, .bool false]) (by simp [results, Tryz.results49, go_sem]) rfl ?_
      exact ⟨fun h => absurd h hf, fun _ => ⟨rfl, Below.refl _ _⟩⟩

end Go.Proofs.YthknbknmlnnhcaaGreatDoor
