/- Walks: bobbinlaw15.awake. -/
import Derived.Test.YthknbknmlnnhcaaGreatDoorXp
namespace Go.Proofs.YthknbknmlnnhcaaGreatDoor
open Go.RowKit Go.Proofs.YthknbknmlnnhcaaGreatDoorW.PrintWords Bob
set_option linter.unusedVariables false
set_option linter.unusedSimpArgs false

set_option maxRecDepth 100000 in
set_option maxHeartbeats 2000000 in
theorem awake15_any (w : World) (ht : Tab w) : Calls Tryz.prog 12 #[] w fun e w' => e = .returned (.bool true) ∧ Below w.heap.size w w' := by
  have HT := Aside0.mk ht
  clear ht
  go_enter Tryz.func12, Tryz.ntmps12
  go_wp2_with fail
  refine (new_any w).mono ?_
  rintro e w1 ⟨rfl, rfl⟩
  have HB1 := Aside0.mk (show Below w.heap.size w (w.alloc (.cells #[.slice none 0 0, .int .i64 0] 97)) from below_alloc (Below.refl _ _) _)
  go_wp2_with fail
  refine (open_any _ w.heap.size (heap_alloc_new _ _)).mono ?_
  rintro e w2 ⟨h, c, rfl, hb2, hg2, hh2, ho2⟩
  have HB2 := Aside0.mk (HB1.out.trans hb2)
  clear hb2
  go_wp2_with fail
  refine (emit_any w2 w.heap.size h c hg2 hh2 ho2).mono ?_
  rintro e w3 ⟨rfl, hb3⟩
  have HB3 := Aside0.mk (HB2.out.trans hb3)
  clear hb3 hg2 hh2 ho2
  have HSH := Aside0.mk (show Calls Tryz.prog 8 #[.agg #[.int .i64 3, .int .i64 (-1), .int .i64 2], .string { data := #[] }] w3 fun e w' => e = .returned (.string { data := #[50, 108, 105, 116, 32, 45, 49, 32, 50] }) ∧ Below w3.heap.size w3 w' from by
    have h1 := show_any w3 3 (-1) 2 [] (by simp) (by decide) (by decide) (by decide) (by decide) (HT.out.below HB3.out)
    have h2 : showL 3 (-1) 2 [] = [50, 108, 105, 116, 32, 45, 49, 32, 50] := by
      unfold showL
      rw [show rowHow 3 = 4 from rfl]
      show rowName 3 ++ [32] ++ Lib.itoa (-1) ++ [32] ++ Lib.itoa 2 = _
      rw [show rowName 3 = [50, 108, 105, 116] from rfl, show Lib.itoa (-1) = [45, 49] by unfold Lib.itoa; rw [if_pos (by decide), Lib.decDigits_one (by decide)]; rfl, show Lib.itoa 2 = [50] by unfold Lib.itoa; rw [if_neg (by decide), Lib.decDigits_one (by decide)]; rfl]
      rfl
    rw [h2] at h1
    exact h1)
  go_wp2_with fail
  refine HSH.out.mono ?_
  rintro e w4 ⟨rfl, hb4⟩
  have HB4 := Aside0.mk (HB3.out.trans (hb4.mono HB3.out.size))
  clear hb4
  go_wp2_with fail
  go_ret
  exact ⟨rfl, HB4.out⟩

end Go.Proofs.YthknbknmlnnhcaaGreatDoor
