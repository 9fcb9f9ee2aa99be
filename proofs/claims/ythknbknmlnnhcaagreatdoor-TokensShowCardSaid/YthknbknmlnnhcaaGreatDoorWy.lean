/- Walks: soft.split, Split. -/
import Derived.Test.YthknbknmlnnhcaaGreatDoorWx
namespace Go.Proofs.YthknbknmlnnhcaaGreatDoor
open Go.RowKit Go.Proofs.YthknbknmlnnhcaaGreatDoorW.PrintWords Bob
set_option linter.unusedVariables false
set_option linter.unusedSimpArgs false

set_option maxRecDepth 100000 in
set_option maxHeartbeats 800000 in
theorem split_any (w : World) (a : Nat) (h : a < 18446744073709551616) : Calls Tryz.prog 96 #[.int .u64 (a : Int)] w fun e w' => e = .returned (.agg #[.bool (fNeg a), .int .u64 (fM a : Int), .int .i64 (fE a)]) ∧ Below w.heap.size w w' := by
  have H := Aside0.mk h
  have h3 := f_frac a h
  obtain ⟨x, hx⟩ : ∃ x, x = fx a := ⟨_, rfl⟩
  have h4 : bits .and .u64 ((a : Int) / 4503599627370496) 2047 = (x : Int) := by
    have := f_exp (a / 4503599627370496) (by omega)
    rw [show ((a / 4503599627370496 : Nat) : Int) = (a : Int) / 4503599627370496 by omega] at this
    rw [this, hx]; rfl
  obtain ⟨m, hm⟩ : ∃ m, m = a % 4503599627370496 := ⟨_, rfl⟩
  rw [← hm] at h3
  have hxb : x < 2048 := by rw [hx]; unfold fx; omega
  have HM := Aside0.mk (show m < 4503599627370496 by omega)
  by_cases hx0 : x = 0
  · have HS := Aside0.mk (show fM a = m ∧ fE a = -1074 by unfold fM fE; rw [← hx, if_pos hx0, if_pos hx0]; exact ⟨hm.symm, rfl⟩)
    clear hm hx
    subst hx0
    go_enter Tryz.func96, Tryz.ntmps96
    go_wp2_with fail
    refine (isNeg_any _ a H.out).mono ?_
    rintro e w3 ⟨rfl, rfl⟩
    go_wp2_with fail
    refine bodyPost_ret (v := .agg #[.bool (fNeg a), .int .u64 (m : Int), .int .i64 (-1074)]) (by simp [results, Tryz.results96, go_sem, fNeg]) rfl ?_
    exact ⟨by rw [HS.out.1, HS.out.2], below_alloc (below_alloc (Below.refl _ _) _) _⟩
  · have HS := Aside0.mk (show fM a = m + 4503599627370496 ∧ fE a = (x : Int) - 1075 by unfold fM fE; rw [← hx, if_neg hx0, if_neg hx0]; exact ⟨by rw [hm], rfl⟩)
    have h5 := f_hidden m HM.out
    have hxx : (x : Int) - 1 + -1074 = (x : Int) - 1075 := by omega
    obtain ⟨m2, hm2⟩ : ∃ m2, m2 = m + 4503599627370496 := ⟨_, rfl⟩
    rw [← hm2] at h5 HS
    clear hm hx hm2
    go_enter Tryz.func96, Tryz.ntmps96
    go_wp2_with fail
    refine (isNeg_any _ a H.out).mono ?_
    rintro e w3 ⟨rfl, rfl⟩
    go_wp2_with fail
    refine bodyPost_ret (v := .agg #[.bool (fNeg a), .int .u64 (m2 : Int), .int .i64 ((x : Int) - 1075)]) (by simp [results, Tryz.results96, go_sem, fNeg]) rfl ?_
    exact ⟨by rw [HS.out.1, HS.out.2], (by repeat first | exact Below.refl _ _ | apply below_alloc | refine Below.setCell ?_ (by simp) _)⟩

end Go.Proofs.YthknbknmlnnhcaaGreatDoor
