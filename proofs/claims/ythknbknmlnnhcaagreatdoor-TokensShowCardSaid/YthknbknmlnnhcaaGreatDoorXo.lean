/- Walks: bobbinref15.Show. -/
import Derived.Test.YthknbknmlnnhcaaGreatDoorXn
namespace Go.Proofs.YthknbknmlnnhcaaGreatDoor
open Go.RowKit Go.Proofs.YthknbknmlnnhcaaGreatDoorW.PrintWords Bob
set_option linter.unusedVariables false
set_option linter.unusedSimpArgs false

set_option maxRecDepth 100000 in
set_option maxHeartbeats 2000000 in
theorem rshow_8 (w : World) (op A B : Int) (R name : List UInt8) (hRL : R.length ≤ 10) (hNM : ∀ W, Calls Tryz.prog 29 #[.int .i64 op] W fun e w' => e = .returned (.string (S R)) ∧ Below W.heap.size W w') (hn : name.length ≤ 1000) (hA : -9223372036854775808 ≤ A ∧ A ≤ 9223372036854775807) (hB : -9223372036854775808 ≤ B ∧ B ≤ 9223372036854775807) (hop : op = 8) :
    Calls Tryz.prog 9 #[.agg #[.int .i64 op, .int .i64 A, .int .i64 B], .string (S name)] w fun e w' => e = .returned (.string (S (R))) ∧ Below w.heap.size w w' := by
  have HNM := Aside0.mk hNM
  have HAB := Aside0.mk (And.intro hA hB)
  have k0 : (w.alloc (.cells #[.int .i64 op, .int .i64 A, .int .i64 B] 23)).cell? ⟨w.heap.size, 0, none⟩ = some (.int .i64 op) := (new_at w _ 23 0).1
  have HBX := Aside0.mk (show Below w.heap.size w (w.alloc (.cells #[.int .i64 op, .int .i64 A, .int .i64 B] 23)) from below_alloc (Below.refl _ _) _)
  have k1 : (w.alloc (.cells #[.int .i64 op, .int .i64 A, .int .i64 B] 23)).cell? ⟨w.heap.size, 1, none⟩ = some (.int .i64 A) := (new_at w _ 23 1).1
  have k2 : (w.alloc (.cells #[.int .i64 op, .int .i64 A, .int .i64 B] 23)).cell? ⟨w.heap.size, 2, none⟩ = some (.int .i64 B) := (new_at w _ 23 2).1

  subst hop
  clear hNM
  generalize S (R) = U at *
  clear hA hB hRL hn
  go_enter Tryz.func9, Tryz.ntmps9
  go_wp2_with fail
  obtain ⟨W1, hW1⟩ : ∃ W1, W1 = w.alloc (.cells #[.int .i64 8, .int .i64 A, .int .i64 B] 23) := ⟨_, rfl⟩
  obtain ⟨g, hg⟩ : ∃ g, g = w.heap.size := ⟨_, rfl⟩
  have hgW : g < W1.heap.size := by rw [hW1, hg]; simp
  rw [← hW1] at k0 k1 k2 HBX ⊢
  rw [← hg] at k0 k1 k2 ⊢
  have HSZ := Aside0.mk (show w.heap.size ≤ W1.heap.size from HBX.out.size)
  clear hW1 hg
  refine (HNM.out _).mono ?_
  rintro e w1 ⟨rfl, hb1⟩
  have j0 := (hb1.cell (p := ⟨g, 0, none⟩) hgW).trans k0
  have j1 := (hb1.cell (p := ⟨g, 1, none⟩) hgW).trans k1
  have j2 := (hb1.cell (p := ⟨g, 2, none⟩) hgW).trans k2
  have hg1 : g < w1.heap.size := Nat.lt_of_lt_of_le hgW hb1.size
  have HB1 := Aside0.mk (HBX.out.trans (hb1.mono HSZ.out))
  clear hb1 k0 k1 k2 hgW
  go_wp2_with fail
  go_ret
  exact ⟨rfl, HB1.out⟩

set_option maxRecDepth 100000 in
set_option maxHeartbeats 2000000 in
theorem rshow_14 (w : World) (op A B : Int) (R name : List UInt8) (hRL : R.length ≤ 10) (hNM : ∀ W, Calls Tryz.prog 29 #[.int .i64 op] W fun e w' => e = .returned (.string (S R)) ∧ Below W.heap.size W w') (hn : name.length ≤ 1000) (hA : -9223372036854775808 ≤ A ∧ A ≤ 9223372036854775807) (hB : -9223372036854775808 ≤ B ∧ B ≤ 9223372036854775807) (hop : op = 14) :
    Calls Tryz.prog 9 #[.agg #[.int .i64 op, .int .i64 A, .int .i64 B], .string (S name)] w fun e w' => e = .returned (.string (S (R))) ∧ Below w.heap.size w w' := by
  have HNM := Aside0.mk hNM
  have HAB := Aside0.mk (And.intro hA hB)
  have k0 : (w.alloc (.cells #[.int .i64 op, .int .i64 A, .int .i64 B] 23)).cell? ⟨w.heap.size, 0, none⟩ = some (.int .i64 op) := (new_at w _ 23 0).1
  have HBX := Aside0.mk (show Below w.heap.size w (w.alloc (.cells #[.int .i64 op, .int .i64 A, .int .i64 B] 23)) from below_alloc (Below.refl _ _) _)
  have k1 : (w.alloc (.cells #[.int .i64 op, .int .i64 A, .int .i64 B] 23)).cell? ⟨w.heap.size, 1, none⟩ = some (.int .i64 A) := (new_at w _ 23 1).1
  have k2 : (w.alloc (.cells #[.int .i64 op, .int .i64 A, .int .i64 B] 23)).cell? ⟨w.heap.size, 2, none⟩ = some (.int .i64 B) := (new_at w _ 23 2).1

  subst hop
  clear hNM
  generalize S (R) = U at *
  clear hA hB hRL hn
  go_enter Tryz.func9, Tryz.ntmps9
  go_wp2_with fail
  obtain ⟨W1, hW1⟩ : ∃ W1, W1 = w.alloc (.cells #[.int .i64 14, .int .i64 A, .int .i64 B] 23) := ⟨_, rfl⟩
  obtain ⟨g, hg⟩ : ∃ g, g = w.heap.size := ⟨_, rfl⟩
  have hgW : g < W1.heap.size := by rw [hW1, hg]; simp
  rw [← hW1] at k0 k1 k2 HBX ⊢
  rw [← hg] at k0 k1 k2 ⊢
  have HSZ := Aside0.mk (show w.heap.size ≤ W1.heap.size from HBX.out.size)
  clear hW1 hg
  refine (HNM.out _).mono ?_
  rintro e w1 ⟨rfl, hb1⟩
  have j0 := (hb1.cell (p := ⟨g, 0, none⟩) hgW).trans k0
  have j1 := (hb1.cell (p := ⟨g, 1, none⟩) hgW).trans k1
  have j2 := (hb1.cell (p := ⟨g, 2, none⟩) hgW).trans k2
  have hg1 : g < w1.heap.size := Nat.lt_of_lt_of_le hgW hb1.size
  have HB1 := Aside0.mk (HBX.out.trans (hb1.mono HSZ.out))
  clear hb1 k0 k1 k2 hgW
  go_wp2_with fail
  go_ret
  exact ⟨rfl, HB1.out⟩

set_option maxRecDepth 100000 in
set_option maxHeartbeats 2000000 in
theorem rshow_15 (w : World) (op A B : Int) (R name : List UInt8) (hRL : R.length ≤ 10) (hNM : ∀ W, Calls Tryz.prog 29 #[.int .i64 op] W fun e w' => e = .returned (.string (S R)) ∧ Below W.heap.size W w') (hn : name.length ≤ 1000) (hA : -9223372036854775808 ≤ A ∧ A ≤ 9223372036854775807) (hB : -9223372036854775808 ≤ B ∧ B ≤ 9223372036854775807) (hop : op = 15) :
    Calls Tryz.prog 9 #[.agg #[.int .i64 op, .int .i64 A, .int .i64 B], .string (S name)] w fun e w' => e = .returned (.string (S (R))) ∧ Below w.heap.size w w' := by
  have HNM := Aside0.mk hNM
  have HAB := Aside0.mk (And.intro hA hB)
  have k0 : (w.alloc (.cells #[.int .i64 op, .int .i64 A, .int .i64 B] 23)).cell? ⟨w.heap.size, 0, none⟩ = some (.int .i64 op) := (new_at w _ 23 0).1
  have HBX := Aside0.mk (show Below w.heap.size w (w.alloc (.cells #[.int .i64 op, .int .i64 A, .int .i64 B] 23)) from below_alloc (Below.refl _ _) _)
  have k1 : (w.alloc (.cells #[.int .i64 op, .int .i64 A, .int .i64 B] 23)).cell? ⟨w.heap.size, 1, none⟩ = some (.int .i64 A) := (new_at w _ 23 1).1
  have k2 : (w.alloc (.cells #[.int .i64 op, .int .i64 A, .int .i64 B] 23)).cell? ⟨w.heap.size, 2, none⟩ = some (.int .i64 B) := (new_at w _ 23 2).1

  subst hop
  clear hNM
  generalize S (R) = U at *
  clear hA hB hRL hn
  go_enter Tryz.func9, Tryz.ntmps9
  go_wp2_with fail
  obtain ⟨W1, hW1⟩ : ∃ W1, W1 = w.alloc (.cells #[.int .i64 15, .int .i64 A, .int .i64 B] 23) := ⟨_, rfl⟩
  obtain ⟨g, hg⟩ : ∃ g, g = w.heap.size := ⟨_, rfl⟩
  have hgW : g < W1.heap.size := by rw [hW1, hg]; simp
  rw [← hW1] at k0 k1 k2 HBX ⊢
  rw [← hg] at k0 k1 k2 ⊢
  have HSZ := Aside0.mk (show w.heap.size ≤ W1.heap.size from HBX.out.size)
  clear hW1 hg
  refine (HNM.out _).mono ?_
  rintro e w1 ⟨rfl, hb1⟩
  have j0 := (hb1.cell (p := ⟨g, 0, none⟩) hgW).trans k0
  have j1 := (hb1.cell (p := ⟨g, 1, none⟩) hgW).trans k1
  have j2 := (hb1.cell (p := ⟨g, 2, none⟩) hgW).trans k2
  have hg1 : g < w1.heap.size := Nat.lt_of_lt_of_le hgW hb1.size
  have HB1 := Aside0.mk (HBX.out.trans (hb1.mono HSZ.out))
  clear hb1 k0 k1 k2 hgW
  go_wp2_with fail
  go_ret
  exact ⟨rfl, HB1.out⟩

set_option maxRecDepth 100000 in
set_option maxHeartbeats 2000000 in
theorem rshow_1 (w : World) (op A B : Int) (R name : List UInt8) (hRL : R.length ≤ 10) (hNM : ∀ W, Calls Tryz.prog 29 #[.int .i64 op] W fun e w' => e = .returned (.string (S R)) ∧ Below W.heap.size W w') (hn : name.length ≤ 1000) (hA : -9223372036854775808 ≤ A ∧ A ≤ 9223372036854775807) (hB : -9223372036854775808 ≤ B ∧ B ≤ 9223372036854775807) (hop : op = 1) :
    Calls Tryz.prog 9 #[.agg #[.int .i64 op, .int .i64 A, .int .i64 B], .string (S name)] w fun e w' => e = .returned (.string (S (R ++ [32] ++ name))) ∧ Below w.heap.size w w' := by
  have HNM := Aside0.mk hNM
  have HAB := Aside0.mk (And.intro hA hB)
  have k0 : (w.alloc (.cells #[.int .i64 op, .int .i64 A, .int .i64 B] 23)).cell? ⟨w.heap.size, 0, none⟩ = some (.int .i64 op) := (new_at w _ 23 0).1
  have HBX := Aside0.mk (show Below w.heap.size w (w.alloc (.cells #[.int .i64 op, .int .i64 A, .int .i64 B] 23)) from below_alloc (Below.refl _ _) _)
  have k1 : (w.alloc (.cells #[.int .i64 op, .int .i64 A, .int .i64 B] 23)).cell? ⟨w.heap.size, 1, none⟩ = some (.int .i64 A) := (new_at w _ 23 1).1
  have k2 : (w.alloc (.cells #[.int .i64 op, .int .i64 A, .int .i64 B] 23)).cell? ⟨w.heap.size, 2, none⟩ = some (.int .i64 B) := (new_at w _ 23 2).1
  have q1 : ∀ w, (Op.stringOp .add (S R) { data := #[32] }).run Tryz.prog w = .ok (.string (S (R ++ [32]))) w := add_run R [32] (by simp; omega)
  have q2 := add_run (R ++ [32]) name (by simp; omega)
  subst hop
  clear hNM
  generalize S (R ++ [32] ++ name) = U at *
  clear hA hB hRL hn
  go_enter Tryz.func9, Tryz.ntmps9
  go_wp2_with fail
  obtain ⟨W1, hW1⟩ : ∃ W1, W1 = w.alloc (.cells #[.int .i64 1, .int .i64 A, .int .i64 B] 23) := ⟨_, rfl⟩
  obtain ⟨g, hg⟩ : ∃ g, g = w.heap.size := ⟨_, rfl⟩
  have hgW : g < W1.heap.size := by rw [hW1, hg]; simp
  rw [← hW1] at k0 k1 k2 HBX ⊢
  rw [← hg] at k0 k1 k2 ⊢
  have HSZ := Aside0.mk (show w.heap.size ≤ W1.heap.size from HBX.out.size)
  clear hW1 hg
  refine (HNM.out _).mono ?_
  rintro e w1 ⟨rfl, hb1⟩
  have j0 := (hb1.cell (p := ⟨g, 0, none⟩) hgW).trans k0
  have j1 := (hb1.cell (p := ⟨g, 1, none⟩) hgW).trans k1
  have j2 := (hb1.cell (p := ⟨g, 2, none⟩) hgW).trans k2
  have hg1 : g < w1.heap.size := Nat.lt_of_lt_of_le hgW hb1.size
  have HB1 := Aside0.mk (HBX.out.trans (hb1.mono HSZ.out))
  clear hb1 k0 k1 k2 hgW
  go_wp2_with fail
  go_ret
  exact ⟨rfl, HB1.out⟩

set_option maxRecDepth 100000 in
set_option maxHeartbeats 2000000 in
theorem rshow_16 (w : World) (op A B : Int) (R name : List UInt8) (hRL : R.length ≤ 10) (hNM : ∀ W, Calls Tryz.prog 29 #[.int .i64 op] W fun e w' => e = .returned (.string (S R)) ∧ Below W.heap.size W w') (hn : name.length ≤ 1000) (hA : -9223372036854775808 ≤ A ∧ A ≤ 9223372036854775807) (hB : -9223372036854775808 ≤ B ∧ B ≤ 9223372036854775807) (hop : op = 16) :
    Calls Tryz.prog 9 #[.agg #[.int .i64 op, .int .i64 A, .int .i64 B], .string (S name)] w fun e w' => e = .returned (.string (S (R ++ [32] ++ name))) ∧ Below w.heap.size w w' := by
  have HNM := Aside0.mk hNM
  have HAB := Aside0.mk (And.intro hA hB)
  have k0 : (w.alloc (.cells #[.int .i64 op, .int .i64 A, .int .i64 B] 23)).cell? ⟨w.heap.size, 0, none⟩ = some (.int .i64 op) := (new_at w _ 23 0).1
  have HBX := Aside0.mk (show Below w.heap.size w (w.alloc (.cells #[.int .i64 op, .int .i64 A, .int .i64 B] 23)) from below_alloc (Below.refl _ _) _)
  have k1 : (w.alloc (.cells #[.int .i64 op, .int .i64 A, .int .i64 B] 23)).cell? ⟨w.heap.size, 1, none⟩ = some (.int .i64 A) := (new_at w _ 23 1).1
  have k2 : (w.alloc (.cells #[.int .i64 op, .int .i64 A, .int .i64 B] 23)).cell? ⟨w.heap.size, 2, none⟩ = some (.int .i64 B) := (new_at w _ 23 2).1
  have q1 : ∀ w, (Op.stringOp .add (S R) { data := #[32] }).run Tryz.prog w = .ok (.string (S (R ++ [32]))) w := add_run R [32] (by simp; omega)
  have q2 := add_run (R ++ [32]) name (by simp; omega)
  subst hop
  clear hNM
  generalize S (R ++ [32] ++ name) = U at *
  clear hA hB hRL hn
  go_enter Tryz.func9, Tryz.ntmps9
  go_wp2_with fail
  obtain ⟨W1, hW1⟩ : ∃ W1, W1 = w.alloc (.cells #[.int .i64 16, .int .i64 A, .int .i64 B] 23) := ⟨_, rfl⟩
  obtain ⟨g, hg⟩ : ∃ g, g = w.heap.size := ⟨_, rfl⟩
  have hgW : g < W1.heap.size := by rw [hW1, hg]; simp
  rw [← hW1] at k0 k1 k2 HBX ⊢
  rw [← hg] at k0 k1 k2 ⊢
  have HSZ := Aside0.mk (show w.heap.size ≤ W1.heap.size from HBX.out.size)
  clear hW1 hg
  refine (HNM.out _).mono ?_
  rintro e w1 ⟨rfl, hb1⟩
  have j0 := (hb1.cell (p := ⟨g, 0, none⟩) hgW).trans k0
  have j1 := (hb1.cell (p := ⟨g, 1, none⟩) hgW).trans k1
  have j2 := (hb1.cell (p := ⟨g, 2, none⟩) hgW).trans k2
  have hg1 : g < w1.heap.size := Nat.lt_of_lt_of_le hgW hb1.size
  have HB1 := Aside0.mk (HBX.out.trans (hb1.mono HSZ.out))
  clear hb1 k0 k1 k2 hgW
  go_wp2_with fail
  go_ret
  exact ⟨rfl, HB1.out⟩

set_option maxRecDepth 100000 in
set_option maxHeartbeats 2000000 in
theorem rshow_21 (w : World) (op A B : Int) (R name : List UInt8) (hRL : R.length ≤ 10) (hNM : ∀ W, Calls Tryz.prog 29 #[.int .i64 op] W fun e w' => e = .returned (.string (S R)) ∧ Below W.heap.size W w') (hn : name.length ≤ 1000) (hA : -9223372036854775808 ≤ A ∧ A ≤ 9223372036854775807) (hB : -9223372036854775808 ≤ B ∧ B ≤ 9223372036854775807) (hop : op = 21) :
    Calls Tryz.prog 9 #[.agg #[.int .i64 op, .int .i64 A, .int .i64 B], .string (S name)] w fun e w' => e = .returned (.string (S (R ++ [32] ++ name))) ∧ Below w.heap.size w w' := by
  have HNM := Aside0.mk hNM
  have HAB := Aside0.mk (And.intro hA hB)
  have k0 : (w.alloc (.cells #[.int .i64 op, .int .i64 A, .int .i64 B] 23)).cell? ⟨w.heap.size, 0, none⟩ = some (.int .i64 op) := (new_at w _ 23 0).1
  have HBX := Aside0.mk (show Below w.heap.size w (w.alloc (.cells #[.int .i64 op, .int .i64 A, .int .i64 B] 23)) from below_alloc (Below.refl _ _) _)
  have k1 : (w.alloc (.cells #[.int .i64 op, .int .i64 A, .int .i64 B] 23)).cell? ⟨w.heap.size, 1, none⟩ = some (.int .i64 A) := (new_at w _ 23 1).1
  have k2 : (w.alloc (.cells #[.int .i64 op, .int .i64 A, .int .i64 B] 23)).cell? ⟨w.heap.size, 2, none⟩ = some (.int .i64 B) := (new_at w _ 23 2).1
  have q1 : ∀ w, (Op.stringOp .add (S R) { data := #[32] }).run Tryz.prog w = .ok (.string (S (R ++ [32]))) w := add_run R [32] (by simp; omega)
  have q2 := add_run (R ++ [32]) name (by simp; omega)
  subst hop
  clear hNM
  generalize S (R ++ [32] ++ name) = U at *
  clear hA hB hRL hn
  go_enter Tryz.func9, Tryz.ntmps9
  go_wp2_with fail
  obtain ⟨W1, hW1⟩ : ∃ W1, W1 = w.alloc (.cells #[.int .i64 21, .int .i64 A, .int .i64 B] 23) := ⟨_, rfl⟩
  obtain ⟨g, hg⟩ : ∃ g, g = w.heap.size := ⟨_, rfl⟩
  have hgW : g < W1.heap.size := by rw [hW1, hg]; simp
  rw [← hW1] at k0 k1 k2 HBX ⊢
  rw [← hg] at k0 k1 k2 ⊢
  have HSZ := Aside0.mk (show w.heap.size ≤ W1.heap.size from HBX.out.size)
  clear hW1 hg
  refine (HNM.out _).mono ?_
  rintro e w1 ⟨rfl, hb1⟩
  have j0 := (hb1.cell (p := ⟨g, 0, none⟩) hgW).trans k0
  have j1 := (hb1.cell (p := ⟨g, 1, none⟩) hgW).trans k1
  have j2 := (hb1.cell (p := ⟨g, 2, none⟩) hgW).trans k2
  have hg1 : g < w1.heap.size := Nat.lt_of_lt_of_le hgW hb1.size
  have HB1 := Aside0.mk (HBX.out.trans (hb1.mono HSZ.out))
  clear hb1 k0 k1 k2 hgW
  go_wp2_with fail
  go_ret
  exact ⟨rfl, HB1.out⟩

set_option maxRecDepth 100000 in
set_option maxHeartbeats 2000000 in
theorem rshow_2 (w : World) (op A B : Int) (R name : List UInt8) (hRL : R.length ≤ 10) (hNM : ∀ W, Calls Tryz.prog 29 #[.int .i64 op] W fun e w' => e = .returned (.string (S R)) ∧ Below W.heap.size W w') (hn : name.length ≤ 1000) (hA : -9223372036854775808 ≤ A ∧ A ≤ 9223372036854775807) (hB : -9223372036854775808 ≤ B ∧ B ≤ 9223372036854775807) (hop : op = 2) :
    Calls Tryz.prog 9 #[.agg #[.int .i64 op, .int .i64 A, .int .i64 B], .string (S name)] w fun e w' => e = .returned (.string (S (R ++ [32] ++ Lib.itoa A))) ∧ Below w.heap.size w w' := by
  have HNM := Aside0.mk hNM
  have HAB := Aside0.mk (And.intro hA hB)
  have k0 : (w.alloc (.cells #[.int .i64 op, .int .i64 A, .int .i64 B] 23)).cell? ⟨w.heap.size, 0, none⟩ = some (.int .i64 op) := (new_at w _ 23 0).1
  have HBX := Aside0.mk (show Below w.heap.size w (w.alloc (.cells #[.int .i64 op, .int .i64 A, .int .i64 B] 23)) from below_alloc (Below.refl _ _) _)
  have k1 : (w.alloc (.cells #[.int .i64 op, .int .i64 A, .int .i64 B] 23)).cell? ⟨w.heap.size, 1, none⟩ = some (.int .i64 A) := (new_at w _ 23 1).1
  have k2 : (w.alloc (.cells #[.int .i64 op, .int .i64 A, .int .i64 B] 23)).cell? ⟨w.heap.size, 2, none⟩ = some (.int .i64 B) := (new_at w _ 23 2).1
  have q1 : ∀ w, (Op.stringOp .add (S R) { data := #[32] }).run Tryz.prog w = .ok (.string (S (R ++ [32]))) w := add_run R [32] (by simp; omega)
  have q2 := add_run (R ++ [32]) (Lib.itoa A) (by have := itoa_len A hA.1 hA.2; simp; omega)
  have HIA := Aside0.mk (fun W => decimal8_any W A hA.1 hA.2)
  generalize S (Lib.itoa A) = sA at *
  subst hop
  clear hNM
  generalize S (R ++ [32] ++ Lib.itoa A) = U at *
  clear hA hB hRL hn
  go_enter Tryz.func9, Tryz.ntmps9
  go_wp2_with fail
  obtain ⟨W1, hW1⟩ : ∃ W1, W1 = w.alloc (.cells #[.int .i64 2, .int .i64 A, .int .i64 B] 23) := ⟨_, rfl⟩
  obtain ⟨g, hg⟩ : ∃ g, g = w.heap.size := ⟨_, rfl⟩
  have hgW : g < W1.heap.size := by rw [hW1, hg]; simp
  rw [← hW1] at k0 k1 k2 HBX ⊢
  rw [← hg] at k0 k1 k2 ⊢
  have HSZ := Aside0.mk (show w.heap.size ≤ W1.heap.size from HBX.out.size)
  clear hW1 hg
  refine (HNM.out _).mono ?_
  rintro e w1 ⟨rfl, hb1⟩
  have j0 := (hb1.cell (p := ⟨g, 0, none⟩) hgW).trans k0
  have j1 := (hb1.cell (p := ⟨g, 1, none⟩) hgW).trans k1
  have j2 := (hb1.cell (p := ⟨g, 2, none⟩) hgW).trans k2
  have hg1 : g < w1.heap.size := Nat.lt_of_lt_of_le hgW hb1.size
  have HB1 := Aside0.mk (HBX.out.trans (hb1.mono HSZ.out))
  clear hb1 k0 k1 k2 hgW
  go_wp2_with fail
  refine (HIA.out _).mono ?_
  rintro e w2 ⟨rfl, hb2⟩
  have HB2 := Aside0.mk (HB1.out.trans (hb2.mono HB1.out.size))
  clear hb2
  go_wp2_with fail
  go_ret
  exact ⟨rfl, HB2.out⟩

set_option maxRecDepth 100000 in
set_option maxHeartbeats 2000000 in
theorem rshow_6 (w : World) (op A B : Int) (R name : List UInt8) (hRL : R.length ≤ 10) (hNM : ∀ W, Calls Tryz.prog 29 #[.int .i64 op] W fun e w' => e = .returned (.string (S R)) ∧ Below W.heap.size W w') (hn : name.length ≤ 1000) (hA : -9223372036854775808 ≤ A ∧ A ≤ 9223372036854775807) (hB : -9223372036854775808 ≤ B ∧ B ≤ 9223372036854775807) (hop : op = 6) :
    Calls Tryz.prog 9 #[.agg #[.int .i64 op, .int .i64 A, .int .i64 B], .string (S name)] w fun e w' => e = .returned (.string (S (R ++ [32] ++ Lib.itoa A))) ∧ Below w.heap.size w w' := by
  have HNM := Aside0.mk hNM
  have HAB := Aside0.mk (And.intro hA hB)
  have k0 : (w.alloc (.cells #[.int .i64 op, .int .i64 A, .int .i64 B] 23)).cell? ⟨w.heap.size, 0, none⟩ = some (.int .i64 op) := (new_at w _ 23 0).1
  have HBX := Aside0.mk (show Below w.heap.size w (w.alloc (.cells #[.int .i64 op, .int .i64 A, .int .i64 B] 23)) from below_alloc (Below.refl _ _) _)
  have k1 : (w.alloc (.cells #[.int .i64 op, .int .i64 A, .int .i64 B] 23)).cell? ⟨w.heap.size, 1, none⟩ = some (.int .i64 A) := (new_at w _ 23 1).1
  have k2 : (w.alloc (.cells #[.int .i64 op, .int .i64 A, .int .i64 B] 23)).cell? ⟨w.heap.size, 2, none⟩ = some (.int .i64 B) := (new_at w _ 23 2).1
  have q1 : ∀ w, (Op.stringOp .add (S R) { data := #[32] }).run Tryz.prog w = .ok (.string (S (R ++ [32]))) w := add_run R [32] (by simp; omega)
  have q2 := add_run (R ++ [32]) (Lib.itoa A) (by have := itoa_len A hA.1 hA.2; simp; omega)
  have HIA := Aside0.mk (fun W => decimal8_any W A hA.1 hA.2)
  generalize S (Lib.itoa A) = sA at *
  subst hop
  clear hNM
  generalize S (R ++ [32] ++ Lib.itoa A) = U at *
  clear hA hB hRL hn
  go_enter Tryz.func9, Tryz.ntmps9
  go_wp2_with fail
  obtain ⟨W1, hW1⟩ : ∃ W1, W1 = w.alloc (.cells #[.int .i64 6, .int .i64 A, .int .i64 B] 23) := ⟨_, rfl⟩
  obtain ⟨g, hg⟩ : ∃ g, g = w.heap.size := ⟨_, rfl⟩
  have hgW : g < W1.heap.size := by rw [hW1, hg]; simp
  rw [← hW1] at k0 k1 k2 HBX ⊢
  rw [← hg] at k0 k1 k2 ⊢
  have HSZ := Aside0.mk (show w.heap.size ≤ W1.heap.size from HBX.out.size)
  clear hW1 hg
  refine (HNM.out _).mono ?_
  rintro e w1 ⟨rfl, hb1⟩
  have j0 := (hb1.cell (p := ⟨g, 0, none⟩) hgW).trans k0
  have j1 := (hb1.cell (p := ⟨g, 1, none⟩) hgW).trans k1
  have j2 := (hb1.cell (p := ⟨g, 2, none⟩) hgW).trans k2
  have hg1 : g < w1.heap.size := Nat.lt_of_lt_of_le hgW hb1.size
  have HB1 := Aside0.mk (HBX.out.trans (hb1.mono HSZ.out))
  clear hb1 k0 k1 k2 hgW
  go_wp2_with fail
  refine (HIA.out _).mono ?_
  rintro e w2 ⟨rfl, hb2⟩
  have HB2 := Aside0.mk (HB1.out.trans (hb2.mono HB1.out.size))
  clear hb2
  go_wp2_with fail
  go_ret
  exact ⟨rfl, HB2.out⟩

set_option maxRecDepth 100000 in
set_option maxHeartbeats 2000000 in
theorem rshow_7 (w : World) (op A B : Int) (R name : List UInt8) (hRL : R.length ≤ 10) (hNM : ∀ W, Calls Tryz.prog 29 #[.int .i64 op] W fun e w' => e = .returned (.string (S R)) ∧ Below W.heap.size W w') (hn : name.length ≤ 1000) (hA : -9223372036854775808 ≤ A ∧ A ≤ 9223372036854775807) (hB : -9223372036854775808 ≤ B ∧ B ≤ 9223372036854775807) (hop : op = 7) :
    Calls Tryz.prog 9 #[.agg #[.int .i64 op, .int .i64 A, .int .i64 B], .string (S name)] w fun e w' => e = .returned (.string (S (R ++ [32] ++ Lib.itoa A))) ∧ Below w.heap.size w w' := by
  have HNM := Aside0.mk hNM
  have HAB := Aside0.mk (And.intro hA hB)
  have k0 : (w.alloc (.cells #[.int .i64 op, .int .i64 A, .int .i64 B] 23)).cell? ⟨w.heap.size, 0, none⟩ = some (.int .i64 op) := (new_at w _ 23 0).1
  have HBX := Aside0.mk (show Below w.heap.size w (w.alloc (.cells #[.int .i64 op, .int .i64 A, .int .i64 B] 23)) from below_alloc (Below.refl _ _) _)
  have k1 : (w.alloc (.cells #[.int .i64 op, .int .i64 A, .int .i64 B] 23)).cell? ⟨w.heap.size, 1, none⟩ = some (.int .i64 A) := (new_at w _ 23 1).1
  have k2 : (w.alloc (.cells #[.int .i64 op, .int .i64 A, .int .i64 B] 23)).cell? ⟨w.heap.size, 2, none⟩ = some (.int .i64 B) := (new_at w _ 23 2).1
  have q1 : ∀ w, (Op.stringOp .add (S R) { data := #[32] }).run Tryz.prog w = .ok (.string (S (R ++ [32]))) w := add_run R [32] (by simp; omega)
  have q2 := add_run (R ++ [32]) (Lib.itoa A) (by have := itoa_len A hA.1 hA.2; simp; omega)
  have HIA := Aside0.mk (fun W => decimal8_any W A hA.1 hA.2)
  generalize S (Lib.itoa A) = sA at *
  subst hop
  clear hNM
  generalize S (R ++ [32] ++ Lib.itoa A) = U at *
  clear hA hB hRL hn
  go_enter Tryz.func9, Tryz.ntmps9
  go_wp2_with fail
  obtain ⟨W1, hW1⟩ : ∃ W1, W1 = w.alloc (.cells #[.int .i64 7, .int .i64 A, .int .i64 B] 23) := ⟨_, rfl⟩
  obtain ⟨g, hg⟩ : ∃ g, g = w.heap.size := ⟨_, rfl⟩
  have hgW : g < W1.heap.size := by rw [hW1, hg]; simp
  rw [← hW1] at k0 k1 k2 HBX ⊢
  rw [← hg] at k0 k1 k2 ⊢
  have HSZ := Aside0.mk (show w.heap.size ≤ W1.heap.size from HBX.out.size)
  clear hW1 hg
  refine (HNM.out _).mono ?_
  rintro e w1 ⟨rfl, hb1⟩
  have j0 := (hb1.cell (p := ⟨g, 0, none⟩) hgW).trans k0
  have j1 := (hb1.cell (p := ⟨g, 1, none⟩) hgW).trans k1
  have j2 := (hb1.cell (p := ⟨g, 2, none⟩) hgW).trans k2
  have hg1 : g < w1.heap.size := Nat.lt_of_lt_of_le hgW hb1.size
  have HB1 := Aside0.mk (HBX.out.trans (hb1.mono HSZ.out))
  clear hb1 k0 k1 k2 hgW
  go_wp2_with fail
  refine (HIA.out _).mono ?_
  rintro e w2 ⟨rfl, hb2⟩
  have HB2 := Aside0.mk (HB1.out.trans (hb2.mono HB1.out.size))
  clear hb2
  go_wp2_with fail
  go_ret
  exact ⟨rfl, HB2.out⟩

set_option maxRecDepth 100000 in
set_option maxHeartbeats 2000000 in
theorem rshow_9 (w : World) (op A B : Int) (R name : List UInt8) (hRL : R.length ≤ 10) (hNM : ∀ W, Calls Tryz.prog 29 #[.int .i64 op] W fun e w' => e = .returned (.string (S R)) ∧ Below W.heap.size W w') (hn : name.length ≤ 1000) (hA : -9223372036854775808 ≤ A ∧ A ≤ 9223372036854775807) (hB : -9223372036854775808 ≤ B ∧ B ≤ 9223372036854775807) (hop : op = 9) :
    Calls Tryz.prog 9 #[.agg #[.int .i64 op, .int .i64 A, .int .i64 B], .string (S name)] w fun e w' => e = .returned (.string (S (R ++ [32] ++ Lib.itoa A))) ∧ Below w.heap.size w w' := by
  have HNM := Aside0.mk hNM
  have HAB := Aside0.mk (And.intro hA hB)
  have k0 : (w.alloc (.cells #[.int .i64 op, .int .i64 A, .int .i64 B] 23)).cell? ⟨w.heap.size, 0, none⟩ = some (.int .i64 op) := (new_at w _ 23 0).1
  have HBX := Aside0.mk (show Below w.heap.size w (w.alloc (.cells #[.int .i64 op, .int .i64 A, .int .i64 B] 23)) from below_alloc (Below.refl _ _) _)
  have k1 : (w.alloc (.cells #[.int .i64 op, .int .i64 A, .int .i64 B] 23)).cell? ⟨w.heap.size, 1, none⟩ = some (.int .i64 A) := (new_at w _ 23 1).1
  have k2 : (w.alloc (.cells #[.int .i64 op, .int .i64 A, .int .i64 B] 23)).cell? ⟨w.heap.size, 2, none⟩ = some (.int .i64 B) := (new_at w _ 23 2).1
  have q1 : ∀ w, (Op.stringOp .add (S R) { data := #[32] }).run Tryz.prog w = .ok (.string (S (R ++ [32]))) w := add_run R [32] (by simp; omega)
  have q2 := add_run (R ++ [32]) (Lib.itoa A) (by have := itoa_len A hA.1 hA.2; simp; omega)
  have HIA := Aside0.mk (fun W => decimal8_any W A hA.1 hA.2)
  generalize S (Lib.itoa A) = sA at *
  subst hop
  clear hNM
  generalize S (R ++ [32] ++ Lib.itoa A) = U at *
  clear hA hB hRL hn
  go_enter Tryz.func9, Tryz.ntmps9
  go_wp2_with fail
  obtain ⟨W1, hW1⟩ : ∃ W1, W1 = w.alloc (.cells #[.int .i64 9, .int .i64 A, .int .i64 B] 23) := ⟨_, rfl⟩
  obtain ⟨g, hg⟩ : ∃ g, g = w.heap.size := ⟨_, rfl⟩
  have hgW : g < W1.heap.size := by rw [hW1, hg]; simp
  rw [← hW1] at k0 k1 k2 HBX ⊢
  rw [← hg] at k0 k1 k2 ⊢
  have HSZ := Aside0.mk (show w.heap.size ≤ W1.heap.size from HBX.out.size)
  clear hW1 hg
  refine (HNM.out _).mono ?_
  rintro e w1 ⟨rfl, hb1⟩
  have j0 := (hb1.cell (p := ⟨g, 0, none⟩) hgW).trans k0
  have j1 := (hb1.cell (p := ⟨g, 1, none⟩) hgW).trans k1
  have j2 := (hb1.cell (p := ⟨g, 2, none⟩) hgW).trans k2
  have hg1 : g < w1.heap.size := Nat.lt_of_lt_of_le hgW hb1.size
  have HB1 := Aside0.mk (HBX.out.trans (hb1.mono HSZ.out))
  clear hb1 k0 k1 k2 hgW
  go_wp2_with fail
  refine (HIA.out _).mono ?_
  rintro e w2 ⟨rfl, hb2⟩
  have HB2 := Aside0.mk (HB1.out.trans (hb2.mono HB1.out.size))
  clear hb2
  go_wp2_with fail
  go_ret
  exact ⟨rfl, HB2.out⟩

set_option maxRecDepth 100000 in
set_option maxHeartbeats 2000000 in
theorem rshow_10 (w : World) (op A B : Int) (R name : List UInt8) (hRL : R.length ≤ 10) (hNM : ∀ W, Calls Tryz.prog 29 #[.int .i64 op] W fun e w' => e = .returned (.string (S R)) ∧ Below W.heap.size W w') (hn : name.length ≤ 1000) (hA : -9223372036854775808 ≤ A ∧ A ≤ 9223372036854775807) (hB : -9223372036854775808 ≤ B ∧ B ≤ 9223372036854775807) (hop : op = 10) :
    Calls Tryz.prog 9 #[.agg #[.int .i64 op, .int .i64 A, .int .i64 B], .string (S name)] w fun e w' => e = .returned (.string (S (R ++ [32] ++ Lib.itoa A))) ∧ Below w.heap.size w w' := by
  have HNM := Aside0.mk hNM
  have HAB := Aside0.mk (And.intro hA hB)
  have k0 : (w.alloc (.cells #[.int .i64 op, .int .i64 A, .int .i64 B] 23)).cell? ⟨w.heap.size, 0, none⟩ = some (.int .i64 op) := (new_at w _ 23 0).1
  have HBX := Aside0.mk (show Below w.heap.size w (w.alloc (.cells #[.int .i64 op, .int .i64 A, .int .i64 B] 23)) from below_alloc (Below.refl _ _) _)
  have k1 : (w.alloc (.cells #[.int .i64 op, .int .i64 A, .int .i64 B] 23)).cell? ⟨w.heap.size, 1, none⟩ = some (.int .i64 A) := (new_at w _ 23 1).1
  have k2 : (w.alloc (.cells #[.int .i64 op, .int .i64 A, .int .i64 B] 23)).cell? ⟨w.heap.size, 2, none⟩ = some (.int .i64 B) := (new_at w _ 23 2).1
  have q1 : ∀ w, (Op.stringOp .add (S R) { data := #[32] }).run Tryz.prog w = .ok (.string (S (R ++ [32]))) w := add_run R [32] (by simp; omega)
  have q2 := add_run (R ++ [32]) (Lib.itoa A) (by have := itoa_len A hA.1 hA.2; simp; omega)
  have HIA := Aside0.mk (fun W => decimal8_any W A hA.1 hA.2)
  generalize S (Lib.itoa A) = sA at *
  subst hop
  clear hNM
  generalize S (R ++ [32] ++ Lib.itoa A) = U at *
  clear hA hB hRL hn
  go_enter Tryz.func9, Tryz.ntmps9
  go_wp2_with fail
  obtain ⟨W1, hW1⟩ : ∃ W1, W1 = w.alloc (.cells #[.int .i64 10, .int .i64 A, .int .i64 B] 23) := ⟨_, rfl⟩
  obtain ⟨g, hg⟩ : ∃ g, g = w.heap.size := ⟨_, rfl⟩
  have hgW : g < W1.heap.size := by rw [hW1, hg]; simp
  rw [← hW1] at k0 k1 k2 HBX ⊢
  rw [← hg] at k0 k1 k2 ⊢
  have HSZ := Aside0.mk (show w.heap.size ≤ W1.heap.size from HBX.out.size)
  clear hW1 hg
  refine (HNM.out _).mono ?_
  rintro e w1 ⟨rfl, hb1⟩
  have j0 := (hb1.cell (p := ⟨g, 0, none⟩) hgW).trans k0
  have j1 := (hb1.cell (p := ⟨g, 1, none⟩) hgW).trans k1
  have j2 := (hb1.cell (p := ⟨g, 2, none⟩) hgW).trans k2
  have hg1 : g < w1.heap.size := Nat.lt_of_lt_of_le hgW hb1.size
  have HB1 := Aside0.mk (HBX.out.trans (hb1.mono HSZ.out))
  clear hb1 k0 k1 k2 hgW
  go_wp2_with fail
  refine (HIA.out _).mono ?_
  rintro e w2 ⟨rfl, hb2⟩
  have HB2 := Aside0.mk (HB1.out.trans (hb2.mono HB1.out.size))
  clear hb2
  go_wp2_with fail
  go_ret
  exact ⟨rfl, HB2.out⟩

set_option maxRecDepth 100000 in
set_option maxHeartbeats 2000000 in
theorem rshow_11 (w : World) (op A B : Int) (R name : List UInt8) (hRL : R.length ≤ 10) (hNM : ∀ W, Calls Tryz.prog 29 #[.int .i64 op] W fun e w' => e = .returned (.string (S R)) ∧ Below W.heap.size W w') (hn : name.length ≤ 1000) (hA : -9223372036854775808 ≤ A ∧ A ≤ 9223372036854775807) (hB : -9223372036854775808 ≤ B ∧ B ≤ 9223372036854775807) (hop : op = 11) :
    Calls Tryz.prog 9 #[.agg #[.int .i64 op, .int .i64 A, .int .i64 B], .string (S name)] w fun e w' => e = .returned (.string (S (R ++ [32] ++ Lib.itoa A))) ∧ Below w.heap.size w w' := by
  have HNM := Aside0.mk hNM
  have HAB := Aside0.mk (And.intro hA hB)
  have k0 : (w.alloc (.cells #[.int .i64 op, .int .i64 A, .int .i64 B] 23)).cell? ⟨w.heap.size, 0, none⟩ = some (.int .i64 op) := (new_at w _ 23 0).1
  have HBX := Aside0.mk (show Below w.heap.size w (w.alloc (.cells #[.int .i64 op, .int .i64 A, .int .i64 B] 23)) from below_alloc (Below.refl _ _) _)
  have k1 : (w.alloc (.cells #[.int .i64 op, .int .i64 A, .int .i64 B] 23)).cell? ⟨w.heap.size, 1, none⟩ = some (.int .i64 A) := (new_at w _ 23 1).1
  have k2 : (w.alloc (.cells #[.int .i64 op, .int .i64 A, .int .i64 B] 23)).cell? ⟨w.heap.size, 2, none⟩ = some (.int .i64 B) := (new_at w _ 23 2).1
  have q1 : ∀ w, (Op.stringOp .add (S R) { data := #[32] }).run Tryz.prog w = .ok (.string (S (R ++ [32]))) w := add_run R [32] (by simp; omega)
  have q2 := add_run (R ++ [32]) (Lib.itoa A) (by have := itoa_len A hA.1 hA.2; simp; omega)
  have HIA := Aside0.mk (fun W => decimal8_any W A hA.1 hA.2)
  generalize S (Lib.itoa A) = sA at *
  subst hop
  clear hNM
  generalize S (R ++ [32] ++ Lib.itoa A) = U at *
  clear hA hB hRL hn
  go_enter Tryz.func9, Tryz.ntmps9
  go_wp2_with fail
  obtain ⟨W1, hW1⟩ : ∃ W1, W1 = w.alloc (.cells #[.int .i64 11, .int .i64 A, .int .i64 B] 23) := ⟨_, rfl⟩
  obtain ⟨g, hg⟩ : ∃ g, g = w.heap.size := ⟨_, rfl⟩
  have hgW : g < W1.heap.size := by rw [hW1, hg]; simp
  rw [← hW1] at k0 k1 k2 HBX ⊢
  rw [← hg] at k0 k1 k2 ⊢
  have HSZ := Aside0.mk (show w.heap.size ≤ W1.heap.size from HBX.out.size)
  clear hW1 hg
  refine (HNM.out _).mono ?_
  rintro e w1 ⟨rfl, hb1⟩
  have j0 := (hb1.cell (p := ⟨g, 0, none⟩) hgW).trans k0
  have j1 := (hb1.cell (p := ⟨g, 1, none⟩) hgW).trans k1
  have j2 := (hb1.cell (p := ⟨g, 2, none⟩) hgW).trans k2
  have hg1 : g < w1.heap.size := Nat.lt_of_lt_of_le hgW hb1.size
  have HB1 := Aside0.mk (HBX.out.trans (hb1.mono HSZ.out))
  clear hb1 k0 k1 k2 hgW
  go_wp2_with fail
  refine (HIA.out _).mono ?_
  rintro e w2 ⟨rfl, hb2⟩
  have HB2 := Aside0.mk (HB1.out.trans (hb2.mono HB1.out.size))
  clear hb2
  go_wp2_with fail
  go_ret
  exact ⟨rfl, HB2.out⟩

set_option maxRecDepth 100000 in
set_option maxHeartbeats 2000000 in
theorem rshow_12 (w : World) (op A B : Int) (R name : List UInt8) (hRL : R.length ≤ 10) (hNM : ∀ W, Calls Tryz.prog 29 #[.int .i64 op] W fun e w' => e = .returned (.string (S R)) ∧ Below W.heap.size W w') (hn : name.length ≤ 1000) (hA : -9223372036854775808 ≤ A ∧ A ≤ 9223372036854775807) (hB : -9223372036854775808 ≤ B ∧ B ≤ 9223372036854775807) (hop : op = 12) :
    Calls Tryz.prog 9 #[.agg #[.int .i64 op, .int .i64 A, .int .i64 B], .string (S name)] w fun e w' => e = .returned (.string (S (R ++ [32] ++ Lib.itoa A))) ∧ Below w.heap.size w w' := by
  have HNM := Aside0.mk hNM
  have HAB := Aside0.mk (And.intro hA hB)
  have k0 : (w.alloc (.cells #[.int .i64 op, .int .i64 A, .int .i64 B] 23)).cell? ⟨w.heap.size, 0, none⟩ = some (.int .i64 op) := (new_at w _ 23 0).1
  have HBX := Aside0.mk (show Below w.heap.size w (w.alloc (.cells #[.int .i64 op, .int .i64 A, .int .i64 B] 23)) from below_alloc (Below.refl _ _) _)
  have k1 : (w.alloc (.cells #[.int .i64 op, .int .i64 A, .int .i64 B] 23)).cell? ⟨w.heap.size, 1, none⟩ = some (.int .i64 A) := (new_at w _ 23 1).1
  have k2 : (w.alloc (.cells #[.int .i64 op, .int .i64 A, .int .i64 B] 23)).cell? ⟨w.heap.size, 2, none⟩ = some (.int .i64 B) := (new_at w _ 23 2).1
  have q1 : ∀ w, (Op.stringOp .add (S R) { data := #[32] }).run Tryz.prog w = .ok (.string (S (R ++ [32]))) w := add_run R [32] (by simp; omega)
  have q2 := add_run (R ++ [32]) (Lib.itoa A) (by have := itoa_len A hA.1 hA.2; simp; omega)
  have HIA := Aside0.mk (fun W => decimal8_any W A hA.1 hA.2)
  generalize S (Lib.itoa A) = sA at *
  subst hop
  clear hNM
  generalize S (R ++ [32] ++ Lib.itoa A) = U at *
  clear hA hB hRL hn
  go_enter Tryz.func9, Tryz.ntmps9
  go_wp2_with fail
  obtain ⟨W1, hW1⟩ : ∃ W1, W1 = w.alloc (.cells #[.int .i64 12, .int .i64 A, .int .i64 B] 23) := ⟨_, rfl⟩
  obtain ⟨g, hg⟩ : ∃ g, g = w.heap.size := ⟨_, rfl⟩
  have hgW : g < W1.heap.size := by rw [hW1, hg]; simp
  rw [← hW1] at k0 k1 k2 HBX ⊢
  rw [← hg] at k0 k1 k2 ⊢
  have HSZ := Aside0.mk (show w.heap.size ≤ W1.heap.size from HBX.out.size)
  clear hW1 hg
  refine (HNM.out _).mono ?_
  rintro e w1 ⟨rfl, hb1⟩
  have j0 := (hb1.cell (p := ⟨g, 0, none⟩) hgW).trans k0
  have j1 := (hb1.cell (p := ⟨g, 1, none⟩) hgW).trans k1
  have j2 := (hb1.cell (p := ⟨g, 2, none⟩) hgW).trans k2
  have hg1 : g < w1.heap.size := Nat.lt_of_lt_of_le hgW hb1.size
  have HB1 := Aside0.mk (HBX.out.trans (hb1.mono HSZ.out))
  clear hb1 k0 k1 k2 hgW
  go_wp2_with fail
  refine (HIA.out _).mono ?_
  rintro e w2 ⟨rfl, hb2⟩
  have HB2 := Aside0.mk (HB1.out.trans (hb2.mono HB1.out.size))
  clear hb2
  go_wp2_with fail
  go_ret
  exact ⟨rfl, HB2.out⟩

set_option maxRecDepth 100000 in
set_option maxHeartbeats 2000000 in
theorem rshow_13 (w : World) (op A B : Int) (R name : List UInt8) (hRL : R.length ≤ 10) (hNM : ∀ W, Calls Tryz.prog 29 #[.int .i64 op] W fun e w' => e = .returned (.string (S R)) ∧ Below W.heap.size W w') (hn : name.length ≤ 1000) (hA : -9223372036854775808 ≤ A ∧ A ≤ 9223372036854775807) (hB : -9223372036854775808 ≤ B ∧ B ≤ 9223372036854775807) (hop : op = 13) :
    Calls Tryz.prog 9 #[.agg #[.int .i64 op, .int .i64 A, .int .i64 B], .string (S name)] w fun e w' => e = .returned (.string (S (R ++ [32] ++ Lib.itoa A))) ∧ Below w.heap.size w w' := by
  have HNM := Aside0.mk hNM
  have HAB := Aside0.mk (And.intro hA hB)
  have k0 : (w.alloc (.cells #[.int .i64 op, .int .i64 A, .int .i64 B] 23)).cell? ⟨w.heap.size, 0, none⟩ = some (.int .i64 op) := (new_at w _ 23 0).1
  have HBX := Aside0.mk (show Below w.heap.size w (w.alloc (.cells #[.int .i64 op, .int .i64 A, .int .i64 B] 23)) from below_alloc (Below.refl _ _) _)
  have k1 : (w.alloc (.cells #[.int .i64 op, .int .i64 A, .int .i64 B] 23)).cell? ⟨w.heap.size, 1, none⟩ = some (.int .i64 A) := (new_at w _ 23 1).1
  have k2 : (w.alloc (.cells #[.int .i64 op, .int .i64 A, .int .i64 B] 23)).cell? ⟨w.heap.size, 2, none⟩ = some (.int .i64 B) := (new_at w _ 23 2).1
  have q1 : ∀ w, (Op.stringOp .add (S R) { data := #[32] }).run Tryz.prog w = .ok (.string (S (R ++ [32]))) w := add_run R [32] (by simp; omega)
  have q2 := add_run (R ++ [32]) (Lib.itoa A) (by have := itoa_len A hA.1 hA.2; simp; omega)
  have HIA := Aside0.mk (fun W => decimal8_any W A hA.1 hA.2)
  generalize S (Lib.itoa A) = sA at *
  subst hop
  clear hNM
  generalize S (R ++ [32] ++ Lib.itoa A) = U at *
  clear hA hB hRL hn
  go_enter Tryz.func9, Tryz.ntmps9
  go_wp2_with fail
  obtain ⟨W1, hW1⟩ : ∃ W1, W1 = w.alloc (.cells #[.int .i64 13, .int .i64 A, .int .i64 B] 23) := ⟨_, rfl⟩
  obtain ⟨g, hg⟩ : ∃ g, g = w.heap.size := ⟨_, rfl⟩
  have hgW : g < W1.heap.size := by rw [hW1, hg]; simp
  rw [← hW1] at k0 k1 k2 HBX ⊢
  rw [← hg] at k0 k1 k2 ⊢
  have HSZ := Aside0.mk (show w.heap.size ≤ W1.heap.size from HBX.out.size)
  clear hW1 hg
  refine (HNM.out _).mono ?_
  rintro e w1 ⟨rfl, hb1⟩
  have j0 := (hb1.cell (p := ⟨g, 0, none⟩) hgW).trans k0
  have j1 := (hb1.cell (p := ⟨g, 1, none⟩) hgW).trans k1
  have j2 := (hb1.cell (p := ⟨g, 2, none⟩) hgW).trans k2
  have hg1 : g < w1.heap.size := Nat.lt_of_lt_of_le hgW hb1.size
  have HB1 := Aside0.mk (HBX.out.trans (hb1.mono HSZ.out))
  clear hb1 k0 k1 k2 hgW
  go_wp2_with fail
  refine (HIA.out _).mono ?_
  rintro e w2 ⟨rfl, hb2⟩
  have HB2 := Aside0.mk (HB1.out.trans (hb2.mono HB1.out.size))
  clear hb2
  go_wp2_with fail
  go_ret
  exact ⟨rfl, HB2.out⟩

set_option maxRecDepth 100000 in
set_option maxHeartbeats 2000000 in
theorem rshow_18 (w : World) (op A B : Int) (R name : List UInt8) (hRL : R.length ≤ 10) (hNM : ∀ W, Calls Tryz.prog 29 #[.int .i64 op] W fun e w' => e = .returned (.string (S R)) ∧ Below W.heap.size W w') (hn : name.length ≤ 1000) (hA : -9223372036854775808 ≤ A ∧ A ≤ 9223372036854775807) (hB : -9223372036854775808 ≤ B ∧ B ≤ 9223372036854775807) (hop : op = 18) :
    Calls Tryz.prog 9 #[.agg #[.int .i64 op, .int .i64 A, .int .i64 B], .string (S name)] w fun e w' => e = .returned (.string (S (R ++ [32] ++ Lib.itoa A))) ∧ Below w.heap.size w w' := by
  have HNM := Aside0.mk hNM
  have HAB := Aside0.mk (And.intro hA hB)
  have k0 : (w.alloc (.cells #[.int .i64 op, .int .i64 A, .int .i64 B] 23)).cell? ⟨w.heap.size, 0, none⟩ = some (.int .i64 op) := (new_at w _ 23 0).1
  have HBX := Aside0.mk (show Below w.heap.size w (w.alloc (.cells #[.int .i64 op, .int .i64 A, .int .i64 B] 23)) from below_alloc (Below.refl _ _) _)
  have k1 : (w.alloc (.cells #[.int .i64 op, .int .i64 A, .int .i64 B] 23)).cell? ⟨w.heap.size, 1, none⟩ = some (.int .i64 A) := (new_at w _ 23 1).1
  have k2 : (w.alloc (.cells #[.int .i64 op, .int .i64 A, .int .i64 B] 23)).cell? ⟨w.heap.size, 2, none⟩ = some (.int .i64 B) := (new_at w _ 23 2).1
  have q1 : ∀ w, (Op.stringOp .add (S R) { data := #[32] }).run Tryz.prog w = .ok (.string (S (R ++ [32]))) w := add_run R [32] (by simp; omega)
  have q2 := add_run (R ++ [32]) (Lib.itoa A) (by have := itoa_len A hA.1 hA.2; simp; omega)
  have HIA := Aside0.mk (fun W => decimal8_any W A hA.1 hA.2)
  generalize S (Lib.itoa A) = sA at *
  subst hop
  clear hNM
  generalize S (R ++ [32] ++ Lib.itoa A) = U at *
  clear hA hB hRL hn
  go_enter Tryz.func9, Tryz.ntmps9
  go_wp2_with fail
  obtain ⟨W1, hW1⟩ : ∃ W1, W1 = w.alloc (.cells #[.int .i64 18, .int .i64 A, .int .i64 B] 23) := ⟨_, rfl⟩
  obtain ⟨g, hg⟩ : ∃ g, g = w.heap.size := ⟨_, rfl⟩
  have hgW : g < W1.heap.size := by rw [hW1, hg]; simp
  rw [← hW1] at k0 k1 k2 HBX ⊢
  rw [← hg] at k0 k1 k2 ⊢
  have HSZ := Aside0.mk (show w.heap.size ≤ W1.heap.size from HBX.out.size)
  clear hW1 hg
  refine (HNM.out _).mono ?_
  rintro e w1 ⟨rfl, hb1⟩
  have j0 := (hb1.cell (p := ⟨g, 0, none⟩) hgW).trans k0
  have j1 := (hb1.cell (p := ⟨g, 1, none⟩) hgW).trans k1
  have j2 := (hb1.cell (p := ⟨g, 2, none⟩) hgW).trans k2
  have hg1 : g < w1.heap.size := Nat.lt_of_lt_of_le hgW hb1.size
  have HB1 := Aside0.mk (HBX.out.trans (hb1.mono HSZ.out))
  clear hb1 k0 k1 k2 hgW
  go_wp2_with fail
  refine (HIA.out _).mono ?_
  rintro e w2 ⟨rfl, hb2⟩
  have HB2 := Aside0.mk (HB1.out.trans (hb2.mono HB1.out.size))
  clear hb2
  go_wp2_with fail
  go_ret
  exact ⟨rfl, HB2.out⟩

set_option maxRecDepth 100000 in
set_option maxHeartbeats 2000000 in
theorem rshow_19 (w : World) (op A B : Int) (R name : List UInt8) (hRL : R.length ≤ 10) (hNM : ∀ W, Calls Tryz.prog 29 #[.int .i64 op] W fun e w' => e = .returned (.string (S R)) ∧ Below W.heap.size W w') (hn : name.length ≤ 1000) (hA : -9223372036854775808 ≤ A ∧ A ≤ 9223372036854775807) (hB : -9223372036854775808 ≤ B ∧ B ≤ 9223372036854775807) (hop : op = 19) :
    Calls Tryz.prog 9 #[.agg #[.int .i64 op, .int .i64 A, .int .i64 B], .string (S name)] w fun e w' => e = .returned (.string (S (R ++ [32] ++ Lib.itoa A))) ∧ Below w.heap.size w w' := by
  have HNM := Aside0.mk hNM
  have HAB := Aside0.mk (And.intro hA hB)
  have k0 : (w.alloc (.cells #[.int .i64 op, .int .i64 A, .int .i64 B] 23)).cell? ⟨w.heap.size, 0, none⟩ = some (.int .i64 op) := (new_at w _ 23 0).1
  have HBX := Aside0.mk (show Below w.heap.size w (w.alloc (.cells #[.int .i64 op, .int .i64 A, .int .i64 B] 23)) from below_alloc (Below.refl _ _) _)
  have k1 : (w.alloc (.cells #[.int .i64 op, .int .i64 A, .int .i64 B] 23)).cell? ⟨w.heap.size, 1, none⟩ = some (.int .i64 A) := (new_at w _ 23 1).1
  have k2 : (w.alloc (.cells #[.int .i64 op, .int .i64 A, .int .i64 B] 23)).cell? ⟨w.heap.size, 2, none⟩ = some (.int .i64 B) := (new_at w _ 23 2).1
  have q1 : ∀ w, (Op.stringOp .add (S R) { data := #[32] }).run Tryz.prog w = .ok (.string (S (R ++ [32]))) w := add_run R [32] (by simp; omega)
  have q2 := add_run (R ++ [32]) (Lib.itoa A) (by have := itoa_len A hA.1 hA.2; simp; omega)
  have HIA := Aside0.mk (fun W => decimal8_any W A hA.1 hA.2)
  generalize S (Lib.itoa A) = sA at *
  subst hop
  clear hNM
  generalize S (R ++ [32] ++ Lib.itoa A) = U at *
  clear hA hB hRL hn
  go_enter Tryz.func9, Tryz.ntmps9
  go_wp2_with fail
  obtain ⟨W1, hW1⟩ : ∃ W1, W1 = w.alloc (.cells #[.int .i64 19, .int .i64 A, .int .i64 B] 23) := ⟨_, rfl⟩
  obtain ⟨g, hg⟩ : ∃ g, g = w.heap.size := ⟨_, rfl⟩
  have hgW : g < W1.heap.size := by rw [hW1, hg]; simp
  rw [← hW1] at k0 k1 k2 HBX ⊢
  rw [← hg] at k0 k1 k2 ⊢
  have HSZ := Aside0.mk (show w.heap.size ≤ W1.heap.size from HBX.out.size)
  clear hW1 hg
  refine (HNM.out _).mono ?_
  rintro e w1 ⟨rfl, hb1⟩
  have j0 := (hb1.cell (p := ⟨g, 0, none⟩) hgW).trans k0
  have j1 := (hb1.cell (p := ⟨g, 1, none⟩) hgW).trans k1
  have j2 := (hb1.cell (p := ⟨g, 2, none⟩) hgW).trans k2
  have hg1 : g < w1.heap.size := Nat.lt_of_lt_of_le hgW hb1.size
  have HB1 := Aside0.mk (HBX.out.trans (hb1.mono HSZ.out))
  clear hb1 k0 k1 k2 hgW
  go_wp2_with fail
  refine (HIA.out _).mono ?_
  rintro e w2 ⟨rfl, hb2⟩
  have HB2 := Aside0.mk (HB1.out.trans (hb2.mono HB1.out.size))
  clear hb2
  go_wp2_with fail
  go_ret
  exact ⟨rfl, HB2.out⟩

set_option maxRecDepth 100000 in
set_option maxHeartbeats 2000000 in
theorem rshow_4 (w : World) (op A B : Int) (R name : List UInt8) (hRL : R.length ≤ 10) (hNM : ∀ W, Calls Tryz.prog 29 #[.int .i64 op] W fun e w' => e = .returned (.string (S R)) ∧ Below W.heap.size W w') (hn : name.length ≤ 1000) (hA : -9223372036854775808 ≤ A ∧ A ≤ 9223372036854775807) (hB : -9223372036854775808 ≤ B ∧ B ≤ 9223372036854775807) (hop : op = 4) :
    Calls Tryz.prog 9 #[.agg #[.int .i64 op, .int .i64 A, .int .i64 B], .string (S name)] w fun e w' => e = .returned (.string (S (R ++ [32] ++ sciS (bitsOf A) 17))) ∧ Below w.heap.size w w' := by
  have HNM := Aside0.mk hNM
  have HAB := Aside0.mk (And.intro hA hB)
  have k0 : (w.alloc (.cells #[.int .i64 op, .int .i64 A, .int .i64 B] 23)).cell? ⟨w.heap.size, 0, none⟩ = some (.int .i64 op) := (new_at w _ 23 0).1
  have HBX := Aside0.mk (show Below w.heap.size w (w.alloc (.cells #[.int .i64 op, .int .i64 A, .int .i64 B] 23)) from below_alloc (Below.refl _ _) _)
  have k1 : (w.alloc (.cells #[.int .i64 op, .int .i64 A, .int .i64 B] 23)).cell? ⟨w.heap.size, 1, none⟩ = some (.int .i64 A) := (new_at w _ 23 1).1
  have k2 : (w.alloc (.cells #[.int .i64 op, .int .i64 A, .int .i64 B] 23)).cell? ⟨w.heap.size, 2, none⟩ = some (.int .i64 B) := (new_at w _ 23 2).1
  have hbits : IntKind.u64.wrap A = (bitsOf A : Int) := by rw [IntKind.wrap_u64]; unfold bitsOf; omega
  have q1 : ∀ w, (Op.stringOp .add (S R) { data := #[32] }).run Tryz.prog w = .ok (.string (S (R ++ [32]))) w := add_run R [32] (by simp; omega)
  have q2 := add_run (R ++ [32]) (sciS (bitsOf A) 17) (by have := sciS_len (bitsOf A) 17; simp; omega)
  have HIA := Aside0.mk (fun W => rscience_any W (bitsOf A) 17 (by unfold bitsOf; omega))
  generalize S (sciS (bitsOf A) 17) = sA at *
  subst hop
  clear hNM
  generalize S (R ++ [32] ++ sciS (bitsOf A) 17) = U at *
  clear hA hB hRL hn
  go_enter Tryz.func9, Tryz.ntmps9
  go_wp2_with fail
  obtain ⟨W1, hW1⟩ : ∃ W1, W1 = w.alloc (.cells #[.int .i64 4, .int .i64 A, .int .i64 B] 23) := ⟨_, rfl⟩
  obtain ⟨g, hg⟩ : ∃ g, g = w.heap.size := ⟨_, rfl⟩
  have hgW : g < W1.heap.size := by rw [hW1, hg]; simp
  rw [← hW1] at k0 k1 k2 HBX ⊢
  rw [← hg] at k0 k1 k2 ⊢
  have HSZ := Aside0.mk (show w.heap.size ≤ W1.heap.size from HBX.out.size)
  clear hW1 hg
  refine (HNM.out _).mono ?_
  rintro e w1 ⟨rfl, hb1⟩
  have j0 := (hb1.cell (p := ⟨g, 0, none⟩) hgW).trans k0
  have j1 := (hb1.cell (p := ⟨g, 1, none⟩) hgW).trans k1
  have j2 := (hb1.cell (p := ⟨g, 2, none⟩) hgW).trans k2
  have hg1 : g < w1.heap.size := Nat.lt_of_lt_of_le hgW hb1.size
  have HB1 := Aside0.mk (HBX.out.trans (hb1.mono HSZ.out))
  clear hb1 k0 k1 k2 hgW
  go_wp2_with fail
  refine (HIA.out _).mono ?_
  rintro e w2 ⟨rfl, hb2⟩
  have HB2 := Aside0.mk (HB1.out.trans (hb2.mono HB1.out.size))
  clear hb2
  go_wp2_with fail
  go_ret
  exact ⟨rfl, HB2.out⟩

set_option maxRecDepth 100000 in
set_option maxHeartbeats 2000000 in
theorem rshow_3 (w : World) (op A B : Int) (R name : List UInt8) (hRL : R.length ≤ 10) (hNM : ∀ W, Calls Tryz.prog 29 #[.int .i64 op] W fun e w' => e = .returned (.string (S R)) ∧ Below W.heap.size W w') (hn : name.length ≤ 1000) (hA : -9223372036854775808 ≤ A ∧ A ≤ 9223372036854775807) (hB : -9223372036854775808 ≤ B ∧ B ≤ 9223372036854775807) (hop : op = 3) :
    Calls Tryz.prog 9 #[.agg #[.int .i64 op, .int .i64 A, .int .i64 B], .string (S name)] w fun e w' => e = .returned (.string (S (R ++ [32] ++ Lib.itoa A ++ [32] ++ Lib.itoa B))) ∧ Below w.heap.size w w' := by
  have HNM := Aside0.mk hNM
  have HAB := Aside0.mk (And.intro hA hB)
  have k0 : (w.alloc (.cells #[.int .i64 op, .int .i64 A, .int .i64 B] 23)).cell? ⟨w.heap.size, 0, none⟩ = some (.int .i64 op) := (new_at w _ 23 0).1
  have HBX := Aside0.mk (show Below w.heap.size w (w.alloc (.cells #[.int .i64 op, .int .i64 A, .int .i64 B] 23)) from below_alloc (Below.refl _ _) _)
  have k1 : (w.alloc (.cells #[.int .i64 op, .int .i64 A, .int .i64 B] 23)).cell? ⟨w.heap.size, 1, none⟩ = some (.int .i64 A) := (new_at w _ 23 1).1
  have k2 : (w.alloc (.cells #[.int .i64 op, .int .i64 A, .int .i64 B] 23)).cell? ⟨w.heap.size, 2, none⟩ = some (.int .i64 B) := (new_at w _ 23 2).1
  have q1 : ∀ w, (Op.stringOp .add (S R) { data := #[32] }).run Tryz.prog w = .ok (.string (S (R ++ [32]))) w := add_run R [32] (by simp; omega)
  have lA := itoa_len A hA.1 hA.2
  have lB := itoa_len B hB.1 hB.2
  have q2 := add_run (R ++ [32]) (Lib.itoa A) (by simp; omega)
  have q3 : ∀ w, (Op.stringOp .add (S (R ++ [32] ++ Lib.itoa A)) { data := #[32] }).run Tryz.prog w = .ok (.string (S (R ++ [32] ++ Lib.itoa A ++ [32]))) w := add_run _ [32] (by simp; omega)
  have q4 := add_run (R ++ [32] ++ Lib.itoa A ++ [32]) (Lib.itoa B) (by simp; omega)
  have HIA := Aside0.mk (fun W => decimal8_any W A hA.1 hA.2)
  have HIB := Aside0.mk (fun W => decimal8_any W B hB.1 hB.2)
  clear lA lB
  generalize S (Lib.itoa A) = sA at *
  generalize S (Lib.itoa B) = sB at *
  generalize S (R ++ [32] ++ Lib.itoa A ++ [32]) = u3 at *
  generalize S (R ++ [32] ++ Lib.itoa A) = u2 at *
  subst hop
  clear hNM
  generalize S (R ++ [32] ++ Lib.itoa A ++ [32] ++ Lib.itoa B) = U at *
  clear hA hB hRL hn
  go_enter Tryz.func9, Tryz.ntmps9
  go_wp2_with fail
  obtain ⟨W1, hW1⟩ : ∃ W1, W1 = w.alloc (.cells #[.int .i64 3, .int .i64 A, .int .i64 B] 23) := ⟨_, rfl⟩
  obtain ⟨g, hg⟩ : ∃ g, g = w.heap.size := ⟨_, rfl⟩
  have hgW : g < W1.heap.size := by rw [hW1, hg]; simp
  rw [← hW1] at k0 k1 k2 HBX ⊢
  rw [← hg] at k0 k1 k2 ⊢
  have HSZ := Aside0.mk (show w.heap.size ≤ W1.heap.size from HBX.out.size)
  clear hW1 hg
  refine (HNM.out _).mono ?_
  rintro e w1 ⟨rfl, hb1⟩
  have j0 := (hb1.cell (p := ⟨g, 0, none⟩) hgW).trans k0
  have j1 := (hb1.cell (p := ⟨g, 1, none⟩) hgW).trans k1
  have j2 := (hb1.cell (p := ⟨g, 2, none⟩) hgW).trans k2
  have hg1 : g < w1.heap.size := Nat.lt_of_lt_of_le hgW hb1.size
  have HB1 := Aside0.mk (HBX.out.trans (hb1.mono HSZ.out))
  clear hb1 k0 k1 k2 hgW
  go_wp2_with fail
  go_region_held3 (fun w' => w'.cell? ⟨g, 1, none⟩ = some (.int .i64 A) ∧ w'.cell? ⟨g, 2, none⟩ = some (.int .i64 B)) (first | go_keep | (refine ⟨(hb4.cell (p := ⟨g, 1, none⟩) hg1).trans j1, (hb4.cell (p := ⟨g, 2, none⟩) hg1).trans j2⟩) | (refine ⟨(hb5.cell (p := ⟨g, 1, none⟩) (Nat.lt_of_lt_of_le hg1 hb4.size)).trans ((hb4.cell (p := ⟨g, 1, none⟩) hg1).trans j1), (hb5.cell (p := ⟨g, 2, none⟩) (Nat.lt_of_lt_of_le hg1 hb4.size)).trans ((hb4.cell (p := ⟨g, 2, none⟩) hg1).trans j2)⟩) | (trace_state; fail))
    (first
      | (go_at_call_of 30 (Value.int .i64 A); refine (HIA.out _).mono ?_; rintro y w4 ⟨rfl, hb4⟩)
      | (go_at_call_of 30 (Value.int .i64 B); refine (HIB.out _).mono ?_; rintro y w5 ⟨rfl, hb5⟩))
  go_wp2_with fail
  go_ret
  exact ⟨rfl, HB1.out.trans ((((Below.drew (Below.refl w1.heap.size w1)).trans hb4).trans (hb5.mono hb4.size)).mono HB1.out.size)⟩

set_option maxRecDepth 100000 in
set_option maxHeartbeats 2000000 in
theorem rshow_5 (w : World) (op A B : Int) (R name : List UInt8) (hRL : R.length ≤ 10) (hNM : ∀ W, Calls Tryz.prog 29 #[.int .i64 op] W fun e w' => e = .returned (.string (S R)) ∧ Below W.heap.size W w') (hn : name.length ≤ 1000) (hA : -9223372036854775808 ≤ A ∧ A ≤ 9223372036854775807) (hB : -9223372036854775808 ≤ B ∧ B ≤ 9223372036854775807) (hop : op = 5) :
    Calls Tryz.prog 9 #[.agg #[.int .i64 op, .int .i64 A, .int .i64 B], .string (S name)] w fun e w' => e = .returned (.string (S (R ++ [32] ++ Lib.itoa A ++ [32] ++ Lib.itoa B))) ∧ Below w.heap.size w w' := by
  have HNM := Aside0.mk hNM
  have HAB := Aside0.mk (And.intro hA hB)
  have k0 : (w.alloc (.cells #[.int .i64 op, .int .i64 A, .int .i64 B] 23)).cell? ⟨w.heap.size, 0, none⟩ = some (.int .i64 op) := (new_at w _ 23 0).1
  have HBX := Aside0.mk (show Below w.heap.size w (w.alloc (.cells #[.int .i64 op, .int .i64 A, .int .i64 B] 23)) from below_alloc (Below.refl _ _) _)
  have k1 : (w.alloc (.cells #[.int .i64 op, .int .i64 A, .int .i64 B] 23)).cell? ⟨w.heap.size, 1, none⟩ = some (.int .i64 A) := (new_at w _ 23 1).1
  have k2 : (w.alloc (.cells #[.int .i64 op, .int .i64 A, .int .i64 B] 23)).cell? ⟨w.heap.size, 2, none⟩ = some (.int .i64 B) := (new_at w _ 23 2).1
  have q1 : ∀ w, (Op.stringOp .add (S R) { data := #[32] }).run Tryz.prog w = .ok (.string (S (R ++ [32]))) w := add_run R [32] (by simp; omega)
  have lA := itoa_len A hA.1 hA.2
  have lB := itoa_len B hB.1 hB.2
  have q2 := add_run (R ++ [32]) (Lib.itoa A) (by simp; omega)
  have q3 : ∀ w, (Op.stringOp .add (S (R ++ [32] ++ Lib.itoa A)) { data := #[32] }).run Tryz.prog w = .ok (.string (S (R ++ [32] ++ Lib.itoa A ++ [32]))) w := add_run _ [32] (by simp; omega)
  have q4 := add_run (R ++ [32] ++ Lib.itoa A ++ [32]) (Lib.itoa B) (by simp; omega)
  have HIA := Aside0.mk (fun W => decimal8_any W A hA.1 hA.2)
  have HIB := Aside0.mk (fun W => decimal8_any W B hB.1 hB.2)
  clear lA lB
  generalize S (Lib.itoa A) = sA at *
  generalize S (Lib.itoa B) = sB at *
  generalize S (R ++ [32] ++ Lib.itoa A ++ [32]) = u3 at *
  generalize S (R ++ [32] ++ Lib.itoa A) = u2 at *
  subst hop
  clear hNM
  generalize S (R ++ [32] ++ Lib.itoa A ++ [32] ++ Lib.itoa B) = U at *
  clear hA hB hRL hn
  go_enter Tryz.func9, Tryz.ntmps9
  go_wp2_with fail
  obtain ⟨W1, hW1⟩ : ∃ W1, W1 = w.alloc (.cells #[.int .i64 5, .int .i64 A, .int .i64 B] 23) := ⟨_, rfl⟩
  obtain ⟨g, hg⟩ : ∃ g, g = w.heap.size := ⟨_, rfl⟩
  have hgW : g < W1.heap.size := by rw [hW1, hg]; simp
  rw [← hW1] at k0 k1 k2 HBX ⊢
  rw [← hg] at k0 k1 k2 ⊢
  have HSZ := Aside0.mk (show w.heap.size ≤ W1.heap.size from HBX.out.size)
  clear hW1 hg
  refine (HNM.out _).mono ?_
  rintro e w1 ⟨rfl, hb1⟩
  have j0 := (hb1.cell (p := ⟨g, 0, none⟩) hgW).trans k0
  have j1 := (hb1.cell (p := ⟨g, 1, none⟩) hgW).trans k1
  have j2 := (hb1.cell (p := ⟨g, 2, none⟩) hgW).trans k2
  have hg1 : g < w1.heap.size := Nat.lt_of_lt_of_le hgW hb1.size
  have HB1 := Aside0.mk (HBX.out.trans (hb1.mono HSZ.out))
  clear hb1 k0 k1 k2 hgW
  go_wp2_with fail
  go_region_held3 (fun w' => w'.cell? ⟨g, 1, none⟩ = some (.int .i64 A) ∧ w'.cell? ⟨g, 2, none⟩ = some (.int .i64 B)) (first | go_keep | (refine ⟨(hb4.cell (p := ⟨g, 1, none⟩) hg1).trans j1, (hb4.cell (p := ⟨g, 2, none⟩) hg1).trans j2⟩) | (refine ⟨(hb5.cell (p := ⟨g, 1, none⟩) (Nat.lt_of_lt_of_le hg1 hb4.size)).trans ((hb4.cell (p := ⟨g, 1, none⟩) hg1).trans j1), (hb5.cell (p := ⟨g, 2, none⟩) (Nat.lt_of_lt_of_le hg1 hb4.size)).trans ((hb4.cell (p := ⟨g, 2, none⟩) hg1).trans j2)⟩) | (trace_state; fail))
    (first
      | (go_at_call_of 30 (Value.int .i64 A); refine (HIA.out _).mono ?_; rintro y w4 ⟨rfl, hb4⟩)
      | (go_at_call_of 30 (Value.int .i64 B); refine (HIB.out _).mono ?_; rintro y w5 ⟨rfl, hb5⟩))
  go_wp2_with fail
  go_ret
  exact ⟨rfl, HB1.out.trans ((((Below.drew (Below.refl w1.heap.size w1)).trans hb4).trans (hb5.mono hb4.size)).mono HB1.out.size)⟩

set_option maxRecDepth 100000 in
set_option maxHeartbeats 2000000 in
theorem rshow_17 (w : World) (op A B : Int) (R name : List UInt8) (hRL : R.length ≤ 10) (hNM : ∀ W, Calls Tryz.prog 29 #[.int .i64 op] W fun e w' => e = .returned (.string (S R)) ∧ Below W.heap.size W w') (hn : name.length ≤ 1000) (hA : -9223372036854775808 ≤ A ∧ A ≤ 9223372036854775807) (hB : -9223372036854775808 ≤ B ∧ B ≤ 9223372036854775807) (hop : op = 17) :
    Calls Tryz.prog 9 #[.agg #[.int .i64 op, .int .i64 A, .int .i64 B], .string (S name)] w fun e w' => e = .returned (.string (S (R ++ [32] ++ Lib.itoa A ++ [32] ++ Lib.itoa B))) ∧ Below w.heap.size w w' := by
  have HNM := Aside0.mk hNM
  have HAB := Aside0.mk (And.intro hA hB)
  have k0 : (w.alloc (.cells #[.int .i64 op, .int .i64 A, .int .i64 B] 23)).cell? ⟨w.heap.size, 0, none⟩ = some (.int .i64 op) := (new_at w _ 23 0).1
  have HBX := Aside0.mk (show Below w.heap.size w (w.alloc (.cells #[.int .i64 op, .int .i64 A, .int .i64 B] 23)) from below_alloc (Below.refl _ _) _)
  have k1 : (w.alloc (.cells #[.int .i64 op, .int .i64 A, .int .i64 B] 23)).cell? ⟨w.heap.size, 1, none⟩ = some (.int .i64 A) := (new_at w _ 23 1).1
  have k2 : (w.alloc (.cells #[.int .i64 op, .int .i64 A, .int .i64 B] 23)).cell? ⟨w.heap.size, 2, none⟩ = some (.int .i64 B) := (new_at w _ 23 2).1
  have q1 : ∀ w, (Op.stringOp .add (S R) { data := #[32] }).run Tryz.prog w = .ok (.string (S (R ++ [32]))) w := add_run R [32] (by simp; omega)
  have lA := itoa_len A hA.1 hA.2
  have lB := itoa_len B hB.1 hB.2
  have q2 := add_run (R ++ [32]) (Lib.itoa A) (by simp; omega)
  have q3 : ∀ w, (Op.stringOp .add (S (R ++ [32] ++ Lib.itoa A)) { data := #[32] }).run Tryz.prog w = .ok (.string (S (R ++ [32] ++ Lib.itoa A ++ [32]))) w := add_run _ [32] (by simp; omega)
  have q4 := add_run (R ++ [32] ++ Lib.itoa A ++ [32]) (Lib.itoa B) (by simp; omega)
  have HIA := Aside0.mk (fun W => decimal8_any W A hA.1 hA.2)
  have HIB := Aside0.mk (fun W => decimal8_any W B hB.1 hB.2)
  clear lA lB
  generalize S (Lib.itoa A) = sA at *
  generalize S (Lib.itoa B) = sB at *
  generalize S (R ++ [32] ++ Lib.itoa A ++ [32]) = u3 at *
  generalize S (R ++ [32] ++ Lib.itoa A) = u2 at *
  subst hop
  clear hNM
  generalize S (R ++ [32] ++ Lib.itoa A ++ [32] ++ Lib.itoa B) = U at *
  clear hA hB hRL hn
  go_enter Tryz.func9, Tryz.ntmps9
  go_wp2_with fail
  obtain ⟨W1, hW1⟩ : ∃ W1, W1 = w.alloc (.cells #[.int .i64 17, .int .i64 A, .int .i64 B] 23) := ⟨_, rfl⟩
  obtain ⟨g, hg⟩ : ∃ g, g = w.heap.size := ⟨_, rfl⟩
  have hgW : g < W1.heap.size := by rw [hW1, hg]; simp
  rw [← hW1] at k0 k1 k2 HBX ⊢
  rw [← hg] at k0 k1 k2 ⊢
  have HSZ := Aside0.mk (show w.heap.size ≤ W1.heap.size from HBX.out.size)
  clear hW1 hg
  refine (HNM.out _).mono ?_
  rintro e w1 ⟨rfl, hb1⟩
  have j0 := (hb1.cell (p := ⟨g, 0, none⟩) hgW).trans k0
  have j1 := (hb1.cell (p := ⟨g, 1, none⟩) hgW).trans k1
  have j2 := (hb1.cell (p := ⟨g, 2, none⟩) hgW).trans k2
  have hg1 : g < w1.heap.size := Nat.lt_of_lt_of_le hgW hb1.size
  have HB1 := Aside0.mk (HBX.out.trans (hb1.mono HSZ.out))
  clear hb1 k0 k1 k2 hgW
  go_wp2_with fail
  go_region_held3 (fun w' => w'.cell? ⟨g, 1, none⟩ = some (.int .i64 A) ∧ w'.cell? ⟨g, 2, none⟩ = some (.int .i64 B)) (first | go_keep | (refine ⟨(hb4.cell (p := ⟨g, 1, none⟩) hg1).trans j1, (hb4.cell (p := ⟨g, 2, none⟩) hg1).trans j2⟩) | (refine ⟨(hb5.cell (p := ⟨g, 1, none⟩) (Nat.lt_of_lt_of_le hg1 hb4.size)).trans ((hb4.cell (p := ⟨g, 1, none⟩) hg1).trans j1), (hb5.cell (p := ⟨g, 2, none⟩) (Nat.lt_of_lt_of_le hg1 hb4.size)).trans ((hb4.cell (p := ⟨g, 2, none⟩) hg1).trans j2)⟩) | (trace_state; fail))
    (first
      | (go_at_call_of 30 (Value.int .i64 A); refine (HIA.out _).mono ?_; rintro y w4 ⟨rfl, hb4⟩)
      | (go_at_call_of 30 (Value.int .i64 B); refine (HIB.out _).mono ?_; rintro y w5 ⟨rfl, hb5⟩))
  go_wp2_with fail
  go_ret
  exact ⟨rfl, HB1.out.trans ((((Below.drew (Below.refl w1.heap.size w1)).trans hb4).trans (hb5.mono hb4.size)).mono HB1.out.size)⟩

set_option maxRecDepth 100000 in
set_option maxHeartbeats 2000000 in
theorem rshow_20 (w : World) (op A B : Int) (R name : List UInt8) (hRL : R.length ≤ 10) (hNM : ∀ W, Calls Tryz.prog 29 #[.int .i64 op] W fun e w' => e = .returned (.string (S R)) ∧ Below W.heap.size W w') (hn : name.length ≤ 1000) (hA : -9223372036854775808 ≤ A ∧ A ≤ 9223372036854775807) (hB : -9223372036854775808 ≤ B ∧ B ≤ 9223372036854775807) (hop : op = 20) :
    Calls Tryz.prog 9 #[.agg #[.int .i64 op, .int .i64 A, .int .i64 B], .string (S name)] w fun e w' => e = .returned (.string (S (R ++ [32] ++ Lib.itoa A ++ [32] ++ Lib.itoa B))) ∧ Below w.heap.size w w' := by
  have HNM := Aside0.mk hNM
  have HAB := Aside0.mk (And.intro hA hB)
  have k0 : (w.alloc (.cells #[.int .i64 op, .int .i64 A, .int .i64 B] 23)).cell? ⟨w.heap.size, 0, none⟩ = some (.int .i64 op) := (new_at w _ 23 0).1
  have HBX := Aside0.mk (show Below w.heap.size w (w.alloc (.cells #[.int .i64 op, .int .i64 A, .int .i64 B] 23)) from below_alloc (Below.refl _ _) _)
  have k1 : (w.alloc (.cells #[.int .i64 op, .int .i64 A, .int .i64 B] 23)).cell? ⟨w.heap.size, 1, none⟩ = some (.int .i64 A) := (new_at w _ 23 1).1
  have k2 : (w.alloc (.cells #[.int .i64 op, .int .i64 A, .int .i64 B] 23)).cell? ⟨w.heap.size, 2, none⟩ = some (.int .i64 B) := (new_at w _ 23 2).1
  have q1 : ∀ w, (Op.stringOp .add (S R) { data := #[32] }).run Tryz.prog w = .ok (.string (S (R ++ [32]))) w := add_run R [32] (by simp; omega)
  have lA := itoa_len A hA.1 hA.2
  have lB := itoa_len B hB.1 hB.2
  have q2 := add_run (R ++ [32]) (Lib.itoa A) (by simp; omega)
  have q3 : ∀ w, (Op.stringOp .add (S (R ++ [32] ++ Lib.itoa A)) { data := #[32] }).run Tryz.prog w = .ok (.string (S (R ++ [32] ++ Lib.itoa A ++ [32]))) w := add_run _ [32] (by simp; omega)
  have q4 := add_run (R ++ [32] ++ Lib.itoa A ++ [32]) (Lib.itoa B) (by simp; omega)
  have HIA := Aside0.mk (fun W => decimal8_any W A hA.1 hA.2)
  have HIB := Aside0.mk (fun W => decimal8_any W B hB.1 hB.2)
  clear lA lB
  generalize S (Lib.itoa A) = sA at *
  generalize S (Lib.itoa B) = sB at *
  generalize S (R ++ [32] ++ Lib.itoa A ++ [32]) = u3 at *
  generalize S (R ++ [32] ++ Lib.itoa A) = u2 at *
  subst hop
  clear hNM
  generalize S (R ++ [32] ++ Lib.itoa A ++ [32] ++ Lib.itoa B) = U at *
  clear hA hB hRL hn
  go_enter Tryz.func9, Tryz.ntmps9
  go_wp2_with fail
  obtain ⟨W1, hW1⟩ : ∃ W1, W1 = w.alloc (.cells #[.int .i64 20, .int .i64 A, .int .i64 B] 23) := ⟨_, rfl⟩
  obtain ⟨g, hg⟩ : ∃ g, g = w.heap.size := ⟨_, rfl⟩
  have hgW : g < W1.heap.size := by rw [hW1, hg]; simp
  rw [← hW1] at k0 k1 k2 HBX ⊢
  rw [← hg] at k0 k1 k2 ⊢
  have HSZ := Aside0.mk (show w.heap.size ≤ W1.heap.size from HBX.out.size)
  clear hW1 hg
  refine (HNM.out _).mono ?_
  rintro e w1 ⟨rfl, hb1⟩
  have j0 := (hb1.cell (p := ⟨g, 0, none⟩) hgW).trans k0
  have j1 := (hb1.cell (p := ⟨g, 1, none⟩) hgW).trans k1
  have j2 := (hb1.cell (p := ⟨g, 2, none⟩) hgW).trans k2
  have hg1 : g < w1.heap.size := Nat.lt_of_lt_of_le hgW hb1.size
  have HB1 := Aside0.mk (HBX.out.trans (hb1.mono HSZ.out))
  clear hb1 k0 k1 k2 hgW
  go_wp2_with fail
  go_region_held3 (fun w' => w'.cell? ⟨g, 1, none⟩ = some (.int .i64 A) ∧ w'.cell? ⟨g, 2, none⟩ = some (.int .i64 B)) (first | go_keep | (refine ⟨(hb4.cell (p := ⟨g, 1, none⟩) hg1).trans j1, (hb4.cell (p := ⟨g, 2, none⟩) hg1).trans j2⟩) | (refine ⟨(hb5.cell (p := ⟨g, 1, none⟩) (Nat.lt_of_lt_of_le hg1 hb4.size)).trans ((hb4.cell (p := ⟨g, 1, none⟩) hg1).trans j1), (hb5.cell (p := ⟨g, 2, none⟩) (Nat.lt_of_lt_of_le hg1 hb4.size)).trans ((hb4.cell (p := ⟨g, 2, none⟩) hg1).trans j2)⟩) | (trace_state; fail))
    (first
      | (go_at_call_of 30 (Value.int .i64 A); refine (HIA.out _).mono ?_; rintro y w4 ⟨rfl, hb4⟩)
      | (go_at_call_of 30 (Value.int .i64 B); refine (HIB.out _).mono ?_; rintro y w5 ⟨rfl, hb5⟩))
  go_wp2_with fail
  go_ret
  exact ⟨rfl, HB1.out.trans ((((Below.drew (Below.refl w1.heap.size w1)).trans hb4).trans (hb5.mono hb4.size)).mono HB1.out.size)⟩

set_option maxRecDepth 100000 in
set_option maxHeartbeats 2000000 in
theorem rshow_else (w : World) (op A B : Int) (R name : List UInt8) (hRL : R.length ≤ 10) (hNM : ∀ W, Calls Tryz.prog 29 #[.int .i64 op] W fun e w' => e = .returned (.string (S R)) ∧ Below W.heap.size W w') (hn : name.length ≤ 1000) (hA : -9223372036854775808 ≤ A ∧ A ≤ 9223372036854775807) (hB : -9223372036854775808 ≤ B ∧ B ≤ 9223372036854775807) (b1 : (op == 1) = false) (b2 : (op == 2) = false) (b3 : (op == 3) = false) (b4 : (op == 4) = false) (b5 : (op == 5) = false) (b6 : (op == 6) = false) (b7 : (op == 7) = false) (b8 : (op == 8) = false) (b9 : (op == 9) = false) (b10 : (op == 10) = false) (b11 : (op == 11) = false) (b12 : (op == 12) = false) (b13 : (op == 13) = false) (b14 : (op == 14) = false) (b15 : (op == 15) = false) (b16 : (op == 16) = false) (b17 : (op == 17) = false) (b18 : (op == 18) = false) (b19 : (op == 19) = false) (b20 : (op == 20) = false) (b21 : (op == 21) = false) :
    Calls Tryz.prog 9 #[.agg #[.int .i64 op, .int .i64 A, .int .i64 B], .string (S name)] w fun e w' => e = .returned (.string (S (R))) ∧ Below w.heap.size w w' := by
  have HNM := Aside0.mk hNM
  have HAB := Aside0.mk (And.intro hA hB)
  have k0 : (w.alloc (.cells #[.int .i64 op, .int .i64 A, .int .i64 B] 23)).cell? ⟨w.heap.size, 0, none⟩ = some (.int .i64 op) := (new_at w _ 23 0).1
  have HBX := Aside0.mk (show Below w.heap.size w (w.alloc (.cells #[.int .i64 op, .int .i64 A, .int .i64 B] 23)) from below_alloc (Below.refl _ _) _)
  have k1 : (w.alloc (.cells #[.int .i64 op, .int .i64 A, .int .i64 B] 23)).cell? ⟨w.heap.size, 1, none⟩ = some (.int .i64 A) := (new_at w _ 23 1).1
  have k2 : (w.alloc (.cells #[.int .i64 op, .int .i64 A, .int .i64 B] 23)).cell? ⟨w.heap.size, 2, none⟩ = some (.int .i64 B) := (new_at w _ 23 2).1

  clear hNM
  generalize S (R) = U at *
  clear hA hB hRL hn
  go_enter Tryz.func9, Tryz.ntmps9
  go_wp2_with fail
  obtain ⟨W1, hW1⟩ : ∃ W1, W1 = w.alloc (.cells #[.int .i64 op, .int .i64 A, .int .i64 B] 23) := ⟨_, rfl⟩
  obtain ⟨g, hg⟩ : ∃ g, g = w.heap.size := ⟨_, rfl⟩
  have hgW : g < W1.heap.size := by rw [hW1, hg]; simp
  rw [← hW1] at k0 k1 k2 HBX ⊢
  rw [← hg] at k0 k1 k2 ⊢
  have HSZ := Aside0.mk (show w.heap.size ≤ W1.heap.size from HBX.out.size)
  clear hW1 hg
  refine (HNM.out _).mono ?_
  rintro e w1 ⟨rfl, hb1⟩
  have j0 := (hb1.cell (p := ⟨g, 0, none⟩) hgW).trans k0
  have j1 := (hb1.cell (p := ⟨g, 1, none⟩) hgW).trans k1
  have j2 := (hb1.cell (p := ⟨g, 2, none⟩) hgW).trans k2
  have hg1 : g < w1.heap.size := Nat.lt_of_lt_of_le hgW hb1.size
  have HB1 := Aside0.mk (HBX.out.trans (hb1.mono HSZ.out))
  clear hb1 k0 k1 k2 hgW
  go_wp2_with fail
  go_ret
  exact ⟨rfl, HB1.out⟩

theorem rshow_any (w : World) (op A B : Int) (name : List UInt8) (hn : name.length ≤ 1000) (hA : -9223372036854775808 ≤ A ∧ A ≤ 9223372036854775807) (hB : -9223372036854775808 ≤ B ∧ B ≤ 9223372036854775807) :
    Calls Tryz.prog 9 #[.agg #[.int .i64 op, .int .i64 A, .int .i64 B], .string (S name)] w fun e w' => e = .returned (.string (S (showL op A B name))) ∧ Below w.heap.size w w' := by
  have hR := rowName_len op
  have hN := fun W => name_any W op
  by_cases h1 : op = 1
  · have h := rshow_1 w op A B (rowName op) name hR hN hn hA hB h1
    have e : rowHow op = 1 := by rw [h1]; rfl
    unfold showL
    rw [e]
    exact h
  · have b1 : (op == 1) = false := beq_eq_false_iff_ne.2 h1
    by_cases h2 : op = 2
    · have h := rshow_2 w op A B (rowName op) name hR hN hn hA hB h2
      have e : rowHow op = 3 := by rw [h2]; rfl
      unfold showL
      rw [e]
      exact h
    · have b2 : (op == 2) = false := beq_eq_false_iff_ne.2 h2
      by_cases h3 : op = 3
      · have h := rshow_3 w op A B (rowName op) name hR hN hn hA hB h3
        have e : rowHow op = 4 := by rw [h3]; rfl
        unfold showL
        rw [e]
        exact h
      · have b3 : (op == 3) = false := beq_eq_false_iff_ne.2 h3
        by_cases h4 : op = 4
        · have h := rshow_4 w op A B (rowName op) name hR hN hn hA hB h4
          have e : rowHow op = 2 := by rw [h4]; rfl
          unfold showL
          rw [e]
          exact h
        · have b4 : (op == 4) = false := beq_eq_false_iff_ne.2 h4
          by_cases h5 : op = 5
          · have h := rshow_5 w op A B (rowName op) name hR hN hn hA hB h5
            have e : rowHow op = 4 := by rw [h5]; rfl
            unfold showL
            rw [e]
            exact h
          · have b5 : (op == 5) = false := beq_eq_false_iff_ne.2 h5
            by_cases h6 : op = 6
            · have h := rshow_6 w op A B (rowName op) name hR hN hn hA hB h6
              have e : rowHow op = 3 := by rw [h6]; rfl
              unfold showL
              rw [e]
              exact h
            · have b6 : (op == 6) = false := beq_eq_false_iff_ne.2 h6
              by_cases h7 : op = 7
              · have h := rshow_7 w op A B (rowName op) name hR hN hn hA hB h7
                have e : rowHow op = 3 := by rw [h7]; rfl
                unfold showL
                rw [e]
                exact h
              · have b7 : (op == 7) = false := beq_eq_false_iff_ne.2 h7
                by_cases h8 : op = 8
                · have h := rshow_8 w op A B (rowName op) name hR hN hn hA hB h8
                  have e : rowHow op = 0 := by rw [h8]; rfl
                  unfold showL
                  rw [e]
                  exact h
                · have b8 : (op == 8) = false := beq_eq_false_iff_ne.2 h8
                  by_cases h9 : op = 9
                  · have h := rshow_9 w op A B (rowName op) name hR hN hn hA hB h9
                    have e : rowHow op = 3 := by rw [h9]; rfl
                    unfold showL
                    rw [e]
                    exact h
                  · have b9 : (op == 9) = false := beq_eq_false_iff_ne.2 h9
                    by_cases h10 : op = 10
                    · have h := rshow_10 w op A B (rowName op) name hR hN hn hA hB h10
                      have e : rowHow op = 3 := by rw [h10]; rfl
                      unfold showL
                      rw [e]
                      exact h
                    · have b10 : (op == 10) = false := beq_eq_false_iff_ne.2 h10
                      by_cases h11 : op = 11
                      · have h := rshow_11 w op A B (rowName op) name hR hN hn hA hB h11
                        have e : rowHow op = 3 := by rw [h11]; rfl
                        unfold showL
                        rw [e]
                        exact h
                      · have b11 : (op == 11) = false := beq_eq_false_iff_ne.2 h11
                        by_cases h12 : op = 12
                        · have h := rshow_12 w op A B (rowName op) name hR hN hn hA hB h12
                          have e : rowHow op = 3 := by rw [h12]; rfl
                          unfold showL
                          rw [e]
                          exact h
                        · have b12 : (op == 12) = false := beq_eq_false_iff_ne.2 h12
                          by_cases h13 : op = 13
                          · have h := rshow_13 w op A B (rowName op) name hR hN hn hA hB h13
                            have e : rowHow op = 3 := by rw [h13]; rfl
                            unfold showL
                            rw [e]
                            exact h
                          · have b13 : (op == 13) = false := beq_eq_false_iff_ne.2 h13
                            by_cases h14 : op = 14
                            · have h := rshow_14 w op A B (rowName op) name hR hN hn hA hB h14
                              have e : rowHow op = 0 := by rw [h14]; rfl
                              unfold showL
                              rw [e]
                              exact h
                            · have b14 : (op == 14) = false := beq_eq_false_iff_ne.2 h14
                              by_cases h15 : op = 15
                              · have h := rshow_15 w op A B (rowName op) name hR hN hn hA hB h15
                                have e : rowHow op = 0 := by rw [h15]; rfl
                                unfold showL
                                rw [e]
                                exact h
                              · have b15 : (op == 15) = false := beq_eq_false_iff_ne.2 h15
                                by_cases h16 : op = 16
                                · have h := rshow_16 w op A B (rowName op) name hR hN hn hA hB h16
                                  have e : rowHow op = 1 := by rw [h16]; rfl
                                  unfold showL
                                  rw [e]
                                  exact h
                                · have b16 : (op == 16) = false := beq_eq_false_iff_ne.2 h16
                                  by_cases h17 : op = 17
                                  · have h := rshow_17 w op A B (rowName op) name hR hN hn hA hB h17
                                    have e : rowHow op = 4 := by rw [h17]; rfl
                                    unfold showL
                                    rw [e]
                                    exact h
                                  · have b17 : (op == 17) = false := beq_eq_false_iff_ne.2 h17
                                    by_cases h18 : op = 18
                                    · have h := rshow_18 w op A B (rowName op) name hR hN hn hA hB h18
                                      have e : rowHow op = 3 := by rw [h18]; rfl
                                      unfold showL
                                      rw [e]
                                      exact h
                                    · have b18 : (op == 18) = false := beq_eq_false_iff_ne.2 h18
                                      by_cases h19 : op = 19
                                      · have h := rshow_19 w op A B (rowName op) name hR hN hn hA hB h19
                                        have e : rowHow op = 3 := by rw [h19]; rfl
                                        unfold showL
                                        rw [e]
                                        exact h
                                      · have b19 : (op == 19) = false := beq_eq_false_iff_ne.2 h19
                                        by_cases h20 : op = 20
                                        · have h := rshow_20 w op A B (rowName op) name hR hN hn hA hB h20
                                          have e : rowHow op = 4 := by rw [h20]; rfl
                                          unfold showL
                                          rw [e]
                                          exact h
                                        · have b20 : (op == 20) = false := beq_eq_false_iff_ne.2 h20
                                          by_cases h21 : op = 21
                                          · have h := rshow_21 w op A B (rowName op) name hR hN hn hA hB h21
                                            have e : rowHow op = 1 := by rw [h21]; rfl
                                            unfold showL
                                            rw [e]
                                            exact h
                                          · have b21 : (op == 21) = false := beq_eq_false_iff_ne.2 h21
                                            have h := rshow_else w op A B (rowName op) name hR hN hn hA hB b1 b2 b3 b4 b5 b6 b7 b8 b9 b10 b11 b12 b13 b14 b15 b16 b17 b18 b19 b20 b21
                                            have e : rowHow op = 0 := by unfold rowHow; rw [if_neg h1, if_neg h2, if_neg h3, if_neg h4, if_neg h5, if_neg h6, if_neg h7, if_neg h8, if_neg h9, if_neg h10, if_neg h11, if_neg h12, if_neg h13, if_neg h14, if_neg h15, if_neg h16, if_neg h17, if_neg h18, if_neg h19, if_neg h20, if_neg h21]
                                            unfold showL
                                            rw [e]
                                            exact h

end Go.Proofs.YthknbknmlnnhcaaGreatDoor
