/- Walks: tokens.row, Jumps; bobbinref15 Name, Jumps. -/
import Derived.Test.YthknbknmlnnhcaaGreatDoorXl
namespace Go.Proofs.YthknbknmlnnhcaaGreatDoor
open Go.RowKit Go.Proofs.YthknbknmlnnhcaaGreatDoorW.PrintWords Bob
set_option linter.unusedVariables false
set_option linter.unusedSimpArgs false

/-- An op's name. -/
def rowName (op : Int) : List UInt8 := if op = 1 then [99, 97, 108, 108] else if op = 2 then [108, 105, 116] else if op = 3 then [50, 108, 105, 116] else if op = 4 then [102, 108, 105, 116] else if op = 5 then [116, 101, 120, 116] else if op = 6 then [106, 117, 109, 112] else if op = 7 then [48, 106, 117, 109, 112] else if op = 8 then [100, 111] else if op = 9 then [63, 100, 111] else if op = 10 then [108, 111, 111, 112] else if op = 11 then [43, 108, 111, 111, 112] else if op = 12 then [108, 101, 97, 118, 101] else if op = 13 then [111, 102] else if op = 14 then [101, 120, 105, 116] else if op = 15 then [100, 111, 101, 115] else if op = 16 then [112, 111, 115, 116] else if op = 17 then [108, 111, 99, 97, 108, 115] else if op = 18 then [108, 111, 99, 97, 108] else if op = 19 then [116, 111] else if op = 20 then [97, 98, 111, 114, 116] else if op = 21 then [120, 116] else []
/-- What is shown behind it: 1 the name, 2 a float, 3 a number, 4 two. -/
def rowHow (op : Int) : Int := if op = 1 then 1 else if op = 2 then 3 else if op = 3 then 4 else if op = 4 then 2 else if op = 5 then 4 else if op = 6 then 3 else if op = 7 then 3 else if op = 8 then 0 else if op = 9 then 3 else if op = 10 then 3 else if op = 11 then 3 else if op = 12 then 3 else if op = 13 then 3 else if op = 14 then 0 else if op = 15 then 0 else if op = 16 then 1 else if op = 17 then 4 else if op = 18 then 3 else if op = 19 then 3 else if op = 20 then 4 else if op = 21 then 1 else 0
theorem rowName_len (op : Int) : (rowName op).length ≤ 10 := by
  have key : ∀ (c : Prop) [Decidable c] (a b : List UInt8), a.length ≤ 10 → b.length ≤ 10 → (if c then a else b).length ≤ 10 := by
    intro c _ a b h1 h2
    split
    · exact h1
    · exact h2
  unfold rowName
  repeat refine key _ _ _ (by decide) ?_
  decide
def jumpsB (op : Int) : Bool := op == 6 || op == 7 || op == 9 || op == 10 || op == 11 || op == 13

set_option maxRecDepth 100000 in
set_option maxHeartbeats 2000000 in
theorem row_any (w : World) (op : Int) : Calls Tryz.prog 26 #[.int .i64 op] w fun e w' => e = .returned (.tuple #[.string (S (rowName op)), .int .i64 (rowHow op)]) ∧ w' = w := by
  by_cases h1 : op = 1
  · subst h1
    go_enter Tryz.func26, Tryz.ntmps26
    go_wp2_with fail
    exact bodyPost_ret (v := .tuple #[.string { data := #[99, 97, 108, 108] }, .int .i64 1]) (by simp [results, Tryz.results26, go_sem]) rfl ⟨rfl, rfl⟩
  · have b1 : (op == 1) = false := beq_eq_false_iff_ne.2 h1
    by_cases h2 : op = 2
    · subst h2
      go_enter Tryz.func26, Tryz.ntmps26
      go_wp2_with fail
      exact bodyPost_ret (v := .tuple #[.string { data := #[108, 105, 116] }, .int .i64 3]) (by simp [results, Tryz.results26, go_sem]) rfl ⟨rfl, rfl⟩
    · have b2 : (op == 2) = false := beq_eq_false_iff_ne.2 h2
      by_cases h3 : op = 3
      · subst h3
        go_enter Tryz.func26, Tryz.ntmps26
        go_wp2_with fail
        exact bodyPost_ret (v := .tuple #[.string { data := #[50, 108, 105, 116] }, .int .i64 4]) (by simp [results, Tryz.results26, go_sem]) rfl ⟨rfl, rfl⟩
      · have b3 : (op == 3) = false := beq_eq_false_iff_ne.2 h3
        by_cases h4 : op = 4
        · subst h4
          go_enter Tryz.func26, Tryz.ntmps26
          go_wp2_with fail
          exact bodyPost_ret (v := .tuple #[.string { data := #[102, 108, 105, 116] }, .int .i64 2]) (by simp [results, Tryz.results26, go_sem]) rfl ⟨rfl, rfl⟩
        · have b4 : (op == 4) = false := beq_eq_false_iff_ne.2 h4
          by_cases h5 : op = 5
          · subst h5
            go_enter Tryz.func26, Tryz.ntmps26
            go_wp2_with fail
            exact bodyPost_ret (v := .tuple #[.string { data := #[116, 101, 120, 116] }, .int .i64 4]) (by simp [results, Tryz.results26, go_sem]) rfl ⟨rfl, rfl⟩
          · have b5 : (op == 5) = false := beq_eq_false_iff_ne.2 h5
            by_cases h6 : op = 6
            · subst h6
              go_enter Tryz.func26, Tryz.ntmps26
              go_wp2_with fail
              exact bodyPost_ret (v := .tuple #[.string { data := #[106, 117, 109, 112] }, .int .i64 3]) (by simp [results, Tryz.results26, go_sem]) rfl ⟨rfl, rfl⟩
            · have b6 : (op == 6) = false := beq_eq_false_iff_ne.2 h6
              by_cases h7 : op = 7
              · subst h7
                go_enter Tryz.func26, Tryz.ntmps26
                go_wp2_with fail
                exact bodyPost_ret (v := .tuple #[.string { data := #[48, 106, 117, 109, 112] }, .int .i64 3]) (by simp [results, Tryz.results26, go_sem]) rfl ⟨rfl, rfl⟩
              · have b7 : (op == 7) = false := beq_eq_false_iff_ne.2 h7
                by_cases h8 : op = 8
                · subst h8
                  go_enter Tryz.func26, Tryz.ntmps26
                  go_wp2_with fail
                  exact bodyPost_ret (v := .tuple #[.string { data := #[100, 111] }, .int .i64 0]) (by simp [results, Tryz.results26, go_sem]) rfl ⟨rfl, rfl⟩
                · have b8 : (op == 8) = false := beq_eq_false_iff_ne.2 h8
                  by_cases h9 : op = 9
                  · subst h9
                    go_enter Tryz.func26, Tryz.ntmps26
                    go_wp2_with fail
                    exact bodyPost_ret (v := .tuple #[.string { data := #[63, 100, 111] }, .int .i64 3]) (by simp [results, Tryz.results26, go_sem]) rfl ⟨rfl, rfl⟩
                  · have b9 : (op == 9) = false := beq_eq_false_iff_ne.2 h9
                    by_cases h10 : op = 10
                    · subst h10
                      go_enter Tryz.func26, Tryz.ntmps26
                      go_wp2_with fail
                      exact bodyPost_ret (v := .tuple #[.string { data := #[108, 111, 111, 112] }, .int .i64 3]) (by simp [results, Tryz.results26, go_sem]) rfl ⟨rfl, rfl⟩
                    · have b10 : (op == 10) = false := beq_eq_false_iff_ne.2 h10
                      by_cases h11 : op = 11
                      · subst h11
                        go_enter Tryz.func26, Tryz.ntmps26
                        go_wp2_with fail
                        exact bodyPost_ret (v := .tuple #[.string { data := #[43, 108, 111, 111, 112] }, .int .i64 3]) (by simp [results, Tryz.results26, go_sem]) rfl ⟨rfl, rfl⟩
                      · have b11 : (op == 11) = false := beq_eq_false_iff_ne.2 h11
                        by_cases h12 : op = 12
                        · subst h12
                          go_enter Tryz.func26, Tryz.ntmps26
                          go_wp2_with fail
                          exact bodyPost_ret (v := .tuple #[.string { data := #[108, 101, 97, 118, 101] }, .int .i64 3]) (by simp [results, Tryz.results26, go_sem]) rfl ⟨rfl, rfl⟩
                        · have b12 : (op == 12) = false := beq_eq_false_iff_ne.2 h12
                          by_cases h13 : op = 13
                          · subst h13
                            go_enter Tryz.func26, Tryz.ntmps26
                            go_wp2_with fail
                            exact bodyPost_ret (v := .tuple #[.string { data := #[111, 102] }, .int .i64 3]) (by simp [results, Tryz.results26, go_sem]) rfl ⟨rfl, rfl⟩
                          · have b13 : (op == 13) = false := beq_eq_false_iff_ne.2 h13
                            by_cases h14 : op = 14
                            · subst h14
                              go_enter Tryz.func26, Tryz.ntmps26
                              go_wp2_with fail
                              exact bodyPost_ret (v := .tuple #[.string { data := #[101, 120, 105, 116] }, .int .i64 0]) (by simp [results, Tryz.results26, go_sem]) rfl ⟨rfl, rfl⟩
                            · have b14 : (op == 14) = false := beq_eq_false_iff_ne.2 h14
                              by_cases h15 : op = 15
                              · subst h15
                                go_enter Tryz.func26, Tryz.ntmps26
                                go_wp2_with fail
                                exact bodyPost_ret (v := .tuple #[.string { data := #[100, 111, 101, 115] }, .int .i64 0]) (by simp [results, Tryz.results26, go_sem]) rfl ⟨rfl, rfl⟩
                              · have b15 : (op == 15) = false := beq_eq_false_iff_ne.2 h15
                                by_cases h16 : op = 16
                                · subst h16
                                  go_enter Tryz.func26, Tryz.ntmps26
                                  go_wp2_with fail
                                  exact bodyPost_ret (v := .tuple #[.string { data := #[112, 111, 115, 116] }, .int .i64 1]) (by simp [results, Tryz.results26, go_sem]) rfl ⟨rfl, rfl⟩
                                · have b16 : (op == 16) = false := beq_eq_false_iff_ne.2 h16
                                  by_cases h17 : op = 17
                                  · subst h17
                                    go_enter Tryz.func26, Tryz.ntmps26
                                    go_wp2_with fail
                                    exact bodyPost_ret (v := .tuple #[.string { data := #[108, 111, 99, 97, 108, 115] }, .int .i64 4]) (by simp [results, Tryz.results26, go_sem]) rfl ⟨rfl, rfl⟩
                                  · have b17 : (op == 17) = false := beq_eq_false_iff_ne.2 h17
                                    by_cases h18 : op = 18
                                    · subst h18
                                      go_enter Tryz.func26, Tryz.ntmps26
                                      go_wp2_with fail
                                      exact bodyPost_ret (v := .tuple #[.string { data := #[108, 111, 99, 97, 108] }, .int .i64 3]) (by simp [results, Tryz.results26, go_sem]) rfl ⟨rfl, rfl⟩
                                    · have b18 : (op == 18) = false := beq_eq_false_iff_ne.2 h18
                                      by_cases h19 : op = 19
                                      · subst h19
                                        go_enter Tryz.func26, Tryz.ntmps26
                                        go_wp2_with fail
                                        exact bodyPost_ret (v := .tuple #[.string { data := #[116, 111] }, .int .i64 3]) (by simp [results, Tryz.results26, go_sem]) rfl ⟨rfl, rfl⟩
                                      · have b19 : (op == 19) = false := beq_eq_false_iff_ne.2 h19
                                        by_cases h20 : op = 20
                                        · subst h20
                                          go_enter Tryz.func26, Tryz.ntmps26
                                          go_wp2_with fail
                                          exact bodyPost_ret (v := .tuple #[.string { data := #[97, 98, 111, 114, 116] }, .int .i64 4]) (by simp [results, Tryz.results26, go_sem]) rfl ⟨rfl, rfl⟩
                                        · have b20 : (op == 20) = false := beq_eq_false_iff_ne.2 h20
                                          by_cases h21 : op = 21
                                          · subst h21
                                            go_enter Tryz.func26, Tryz.ntmps26
                                            go_wp2_with fail
                                            exact bodyPost_ret (v := .tuple #[.string { data := #[120, 116] }, .int .i64 1]) (by simp [results, Tryz.results26, go_sem]) rfl ⟨rfl, rfl⟩
                                          · have b21 : (op == 21) = false := beq_eq_false_iff_ne.2 h21
                                            have HS := Aside0.mk (show rowName op = [] ∧ rowHow op = 0 by unfold rowName rowHow; rw [if_neg h1, if_neg h2, if_neg h3, if_neg h4, if_neg h5, if_neg h6, if_neg h7, if_neg h8, if_neg h9, if_neg h10, if_neg h11, if_neg h12, if_neg h13, if_neg h14, if_neg h15, if_neg h16, if_neg h17, if_neg h18, if_neg h19, if_neg h20, if_neg h21]; rw [if_neg h1, if_neg h2, if_neg h3, if_neg h4, if_neg h5, if_neg h6, if_neg h7, if_neg h8, if_neg h9, if_neg h10, if_neg h11, if_neg h12, if_neg h13, if_neg h14, if_neg h15, if_neg h16, if_neg h17, if_neg h18, if_neg h19, if_neg h20, if_neg h21]; exact ⟨rfl, rfl⟩)
                                            clear h1 h2 h3 h4 h5 h6 h7 h8 h9 h10 h11 h12 h13 h14 h15 h16 h17 h18 h19 h20 h21
                                            go_enter Tryz.func26, Tryz.ntmps26
                                            go_wp2_with fail
                                            exact bodyPost_ret (v := .tuple #[.string { data := #[] }, .int .i64 0]) (by simp [results, Tryz.results26, go_sem]) rfl ⟨by rw [HS.out.1, HS.out.2]; rfl, rfl⟩

set_option maxRecDepth 100000 in
set_option maxHeartbeats 2000000 in
theorem name_any (w : World) (op : Int) : Calls Tryz.prog 29 #[.int .i64 op] w fun e w' => e = .returned (.string (S (rowName op))) ∧ Below w.heap.size w w' := by
  by_cases h1 : op = 1
  · subst h1
    go_enter Tryz.func29, Tryz.ntmps29
    go_wp2_with fail
    go_ret
    exact ⟨rfl, below_alloc (Below.refl _ _) _⟩
  · skip
    by_cases h2 : op = 2
    · subst h2
      go_enter Tryz.func29, Tryz.ntmps29
      go_wp2_with fail
      go_ret
      exact ⟨rfl, below_alloc (Below.refl _ _) _⟩
    · skip
      by_cases h3 : op = 3
      · subst h3
        go_enter Tryz.func29, Tryz.ntmps29
        go_wp2_with fail
        go_ret
        exact ⟨rfl, below_alloc (Below.refl _ _) _⟩
      · skip
        by_cases h4 : op = 4
        · subst h4
          go_enter Tryz.func29, Tryz.ntmps29
          go_wp2_with fail
          go_ret
          exact ⟨rfl, below_alloc (Below.refl _ _) _⟩
        · skip
          by_cases h5 : op = 5
          · subst h5
            go_enter Tryz.func29, Tryz.ntmps29
            go_wp2_with fail
            go_ret
            exact ⟨rfl, below_alloc (Below.refl _ _) _⟩
          · skip
            by_cases h6 : op = 6
            · subst h6
              go_enter Tryz.func29, Tryz.ntmps29
              go_wp2_with fail
              go_ret
              exact ⟨rfl, below_alloc (Below.refl _ _) _⟩
            · skip
              by_cases h7 : op = 7
              · subst h7
                go_enter Tryz.func29, Tryz.ntmps29
                go_wp2_with fail
                go_ret
                exact ⟨rfl, below_alloc (Below.refl _ _) _⟩
              · skip
                by_cases h8 : op = 8
                · subst h8
                  go_enter Tryz.func29, Tryz.ntmps29
                  go_wp2_with fail
                  go_ret
                  exact ⟨rfl, below_alloc (Below.refl _ _) _⟩
                · skip
                  by_cases h9 : op = 9
                  · subst h9
                    go_enter Tryz.func29, Tryz.ntmps29
                    go_wp2_with fail
                    go_ret
                    exact ⟨rfl, below_alloc (Below.refl _ _) _⟩
                  · skip
                    by_cases h10 : op = 10
                    · subst h10
                      go_enter Tryz.func29, Tryz.ntmps29
                      go_wp2_with fail
                      go_ret
                      exact ⟨rfl, below_alloc (Below.refl _ _) _⟩
                    · skip
                      by_cases h11 : op = 11
                      · subst h11
                        go_enter Tryz.func29, Tryz.ntmps29
                        go_wp2_with fail
                        go_ret
                        exact ⟨rfl, below_alloc (Below.refl _ _) _⟩
                      · skip
                        by_cases h12 : op = 12
                        · subst h12
                          go_enter Tryz.func29, Tryz.ntmps29
                          go_wp2_with fail
                          go_ret
                          exact ⟨rfl, below_alloc (Below.refl _ _) _⟩
                        · skip
                          by_cases h13 : op = 13
                          · subst h13
                            go_enter Tryz.func29, Tryz.ntmps29
                            go_wp2_with fail
                            go_ret
                            exact ⟨rfl, below_alloc (Below.refl _ _) _⟩
                          · skip
                            by_cases h14 : op = 14
                            · subst h14
                              go_enter Tryz.func29, Tryz.ntmps29
                              go_wp2_with fail
                              go_ret
                              exact ⟨rfl, below_alloc (Below.refl _ _) _⟩
                            · skip
                              by_cases h15 : op = 15
                              · subst h15
                                go_enter Tryz.func29, Tryz.ntmps29
                                go_wp2_with fail
                                go_ret
                                exact ⟨rfl, below_alloc (Below.refl _ _) _⟩
                              · skip
                                by_cases h16 : op = 16
                                · subst h16
                                  go_enter Tryz.func29, Tryz.ntmps29
                                  go_wp2_with fail
                                  go_ret
                                  exact ⟨rfl, below_alloc (Below.refl _ _) _⟩
                                · skip
                                  by_cases h17 : op = 17
                                  · subst h17
                                    go_enter Tryz.func29, Tryz.ntmps29
                                    go_wp2_with fail
                                    go_ret
                                    exact ⟨rfl, below_alloc (Below.refl _ _) _⟩
                                  · skip
                                    by_cases h18 : op = 18
                                    · subst h18
                                      go_enter Tryz.func29, Tryz.ntmps29
                                      go_wp2_with fail
                                      go_ret
                                      exact ⟨rfl, below_alloc (Below.refl _ _) _⟩
                                    · skip
                                      by_cases h19 : op = 19
                                      · subst h19
                                        go_enter Tryz.func29, Tryz.ntmps29
                                        go_wp2_with fail
                                        go_ret
                                        exact ⟨rfl, below_alloc (Below.refl _ _) _⟩
                                      · skip
                                        by_cases h20 : op = 20
                                        · subst h20
                                          go_enter Tryz.func29, Tryz.ntmps29
                                          go_wp2_with fail
                                          go_ret
                                          exact ⟨rfl, below_alloc (Below.refl _ _) _⟩
                                        · skip
                                          by_cases h21 : op = 21
                                          · subst h21
                                            go_enter Tryz.func29, Tryz.ntmps29
                                            go_wp2_with fail
                                            go_ret
                                            exact ⟨rfl, below_alloc (Below.refl _ _) _⟩
                                          · skip
                                            have HS := Aside0.mk (show rowName op = [] by unfold rowName; rw [if_neg h1, if_neg h2, if_neg h3, if_neg h4, if_neg h5, if_neg h6, if_neg h7, if_neg h8, if_neg h9, if_neg h10, if_neg h11, if_neg h12, if_neg h13, if_neg h14, if_neg h15, if_neg h16, if_neg h17, if_neg h18, if_neg h19, if_neg h20, if_neg h21])
                                            have hor : op < 1 ∨ 21 < op := by omega
                                            clear h1 h2 h3 h4 h5 h6 h7 h8 h9 h10 h11 h12 h13 h14 h15 h16 h17 h18 h19 h20 h21
                                            rcases hor with h | h
                                            · go_enter Tryz.func29, Tryz.ntmps29
                                              go_wp2_with fail
                                              go_ret
                                              exact ⟨by rw [HS.out]; rfl, below_alloc (Below.refl _ _) _⟩
                                            · go_enter Tryz.func29, Tryz.ntmps29
                                              go_wp2_with fail
                                              go_ret
                                              exact ⟨by rw [HS.out]; rfl, below_alloc (Below.refl _ _) _⟩

set_option maxRecDepth 100000 in
set_option maxHeartbeats 2000000 in
theorem jumps_any (w : World) (op : Int) : Calls Tryz.prog 10 #[.int .i64 op] w fun e w' => e = .returned (.bool (jumpsB op)) ∧ w' = w := by
  by_cases h6 : op = 6
  · subst h6
    go_enter Tryz.func10, Tryz.ntmps10
    go_wp2_with fail
    go_ret
    exact ⟨rfl, rfl⟩
  · have b6 : (op == 6) = false := beq_eq_false_iff_ne.2 h6
    by_cases h7 : op = 7
    · subst h7
      go_enter Tryz.func10, Tryz.ntmps10
      go_wp2_with fail
      go_ret
      exact ⟨rfl, rfl⟩
    · have b7 : (op == 7) = false := beq_eq_false_iff_ne.2 h7
      by_cases h9 : op = 9
      · subst h9
        go_enter Tryz.func10, Tryz.ntmps10
        go_wp2_with fail
        go_ret
        exact ⟨rfl, rfl⟩
      · have b9 : (op == 9) = false := beq_eq_false_iff_ne.2 h9
        by_cases h10 : op = 10
        · subst h10
          go_enter Tryz.func10, Tryz.ntmps10
          go_wp2_with fail
          go_ret
          exact ⟨rfl, rfl⟩
        · have b10 : (op == 10) = false := beq_eq_false_iff_ne.2 h10
          by_cases h11 : op = 11
          · subst h11
            go_enter Tryz.func10, Tryz.ntmps10
            go_wp2_with fail
            go_ret
            exact ⟨rfl, rfl⟩
          · have b11 : (op == 11) = false := beq_eq_false_iff_ne.2 h11
            by_cases h13 : op = 13
            · subst h13
              go_enter Tryz.func10, Tryz.ntmps10
              go_wp2_with fail
              go_ret
              exact ⟨rfl, rfl⟩
            · have b13 : (op == 13) = false := beq_eq_false_iff_ne.2 h13
              have HS := Aside0.mk (show jumpsB op = false by unfold jumpsB; simp only [b6, b7, b9, b10, b11, b13, Bool.or_self])
              clear h6 h7 h9 h10 h11 h13
              go_enter Tryz.func10, Tryz.ntmps10
              go_wp2_with fail
              go_ret
              exact ⟨by rw [HS.out]; rfl, rfl⟩

set_option maxRecDepth 100000 in
set_option maxHeartbeats 2000000 in
theorem rjumps_any (w : World) (op : Int) : Calls Tryz.prog 11 #[.int .i64 op] w fun e w' => e = .returned (.bool (jumpsB op)) ∧ w' = w := by
  by_cases h6 : op = 6
  · subst h6
    go_enter Tryz.func11, Tryz.ntmps11
    go_wp2_with fail
    go_ret
    exact ⟨rfl, rfl⟩
  · have b6 : (op == 6) = false := beq_eq_false_iff_ne.2 h6
    by_cases h7 : op = 7
    · subst h7
      go_enter Tryz.func11, Tryz.ntmps11
      go_wp2_with fail
      go_ret
      exact ⟨rfl, rfl⟩
    · have b7 : (op == 7) = false := beq_eq_false_iff_ne.2 h7
      by_cases h9 : op = 9
      · subst h9
        go_enter Tryz.func11, Tryz.ntmps11
        go_wp2_with fail
        go_ret
        exact ⟨rfl, rfl⟩
      · have b9 : (op == 9) = false := beq_eq_false_iff_ne.2 h9
        by_cases h10 : op = 10
        · subst h10
          go_enter Tryz.func11, Tryz.ntmps11
          go_wp2_with fail
          go_ret
          exact ⟨rfl, rfl⟩
        · have b10 : (op == 10) = false := beq_eq_false_iff_ne.2 h10
          by_cases h11 : op = 11
          · subst h11
            go_enter Tryz.func11, Tryz.ntmps11
            go_wp2_with fail
            go_ret
            exact ⟨rfl, rfl⟩
          · have b11 : (op == 11) = false := beq_eq_false_iff_ne.2 h11
            by_cases h13 : op = 13
            · subst h13
              go_enter Tryz.func11, Tryz.ntmps11
              go_wp2_with fail
              go_ret
              exact ⟨rfl, rfl⟩
            · have b13 : (op == 13) = false := beq_eq_false_iff_ne.2 h13
              have HS := Aside0.mk (show jumpsB op = false by unfold jumpsB; simp only [b6, b7, b9, b10, b11, b13, Bool.or_self])
              clear h6 h7 h9 h10 h11 h13
              go_enter Tryz.func11, Tryz.ntmps11
              go_wp2_with fail
              go_ret
              exact ⟨by rw [HS.out]; rfl, rfl⟩

end Go.Proofs.YthknbknmlnnhcaaGreatDoor
