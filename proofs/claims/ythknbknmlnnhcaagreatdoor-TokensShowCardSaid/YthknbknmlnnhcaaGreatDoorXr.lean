/- Walks: bobbinlaw15.TokensShow. -/
import Derived.Test.YthknbknmlnnhcaaGreatDoorXq
namespace Go.Proofs.YthknbknmlnnhcaaGreatDoor
open Go.RowKit Go.Proofs.YthknbknmlnnhcaaGreatDoorW.PrintWords Bob
set_option linter.unusedVariables false
set_option linter.unusedSimpArgs false

set_option maxRecDepth 100000 in
set_option maxHeartbeats 2000000 in
theorem law15_any (w : World) (op A B : Int) (name : ByteArray) (hA : -9223372036854775808 ≤ A ∧ A ≤ 9223372036854775807) (hB : -9223372036854775808 ≤ B ∧ B ≤ 9223372036854775807) (hn : name.size ≤ 9223372036854775807) (ht : Tab w) :
    Calls Tryz.prog 3 #[.agg #[.int .i64 op, .int .i64 A, .int .i64 B], .string name] w fun e w' => e = .returned (.bool true) ∧ Below w.heap.size w w' := by
  have HT := Aside0.mk ht
  have HN := Aside0.mk hn
  have HAB := Aside0.mk (And.intro hA hB)
  clear ht hA hB
  by_cases hl : 300 < name.size
  · have hl2 : decide ((300 : Int) < name.size) = true := decide_eq_true (by omega)
    clear hn
    go_enter Tryz.func3, Tryz.ntmps3
    go_wp2_with fail
    go_quiet (fail)
    go_wp2_with fail
    go_ret
    exact ⟨rfl, (by repeat first | exact below_alloc (Below.refl _ _) _ | apply pw_below_drewN)⟩
  · have hl2 : decide ((300 : Int) < name.size) = false := decide_eq_false (by omega)
    have HSZ := Aside0.mk hl
    clear hn hl
    obtain ⟨L, hL⟩ : ∃ L : List UInt8, name = S L := ⟨name.data.toList, (S_data name).symm⟩
    have HLL := Aside0.mk (show L.length ≤ 300 by have := HSZ.out; rw [hL, S_size] at this; omega)
    have H8 : Aside0 (∀ W, Tab W → Calls Tryz.prog 8 #[.agg #[.int .i64 op, .int .i64 A, .int .i64 B], .string name] W fun e w' => e = .returned (.string (S (showL op A B L))) ∧ Below W.heap.size W w') := ⟨fun W hW => by
      rw [hL]; exact show_any W op A B L (by have := HLL.out; omega) HAB.out.1.1 HAB.out.1.2 HAB.out.2.1 HAB.out.2.2 hW⟩
    have H9 : Aside0 (∀ W, Calls Tryz.prog 9 #[.agg #[.int .i64 op, .int .i64 A, .int .i64 B], .string name] W fun e w' => e = .returned (.string (S (showL op A B L))) ∧ Below W.heap.size W w') := ⟨fun W => by
      rw [hL]; exact rshow_any W op A B L (by have := HLL.out; omega) HAB.out.1 HAB.out.2⟩
    generalize S (showL op A B L) = U at H8 H9
    clear hL
    go_enter Tryz.func3, Tryz.ntmps3
    go_wp2_with fail
    have t0 := (new_at w #[.int .i64 op, .int .i64 A, .int .i64 B] 23 0).1
    have t1 := (new_at w #[.int .i64 op, .int .i64 A, .int .i64 B] 23 1).1
    have t2 := (new_at w #[.int .i64 op, .int .i64 A, .int .i64 B] 23 2).1
    obtain ⟨tb, htb⟩ : ∃ tb, tb = w.heap.size := ⟨_, rfl⟩
    obtain ⟨W1, hW1⟩ : ∃ W1, W1 = w.alloc (.cells #[.int .i64 op, .int .i64 A, .int .i64 B] 23) := ⟨_, rfl⟩
    have hsz : tb < W1.heap.size := by rw [hW1, htb]; simp
    have HB1 := Aside0.mk (show Below w.heap.size w W1 by rw [hW1]; exact below_alloc (Below.refl _ _) _)
    rw [← hW1] at t0 t1 t2 ⊢
    rw [← htb] at t0 t1 t2 ⊢
    have t0' : W1.cell? ⟨tb, 0, none⟩ = some (.int .i64 op) := t0
    have t1' : W1.cell? ⟨tb, 1, none⟩ = some (.int .i64 A) := t1
    have t2' : W1.cell? ⟨tb, 2, none⟩ = some (.int .i64 B) := t2
    have HT1 := Aside0.mk (HT.out.below HB1.out)
    clear hW1 htb t0 t1 t2
    go_region_held3 (fun w' => w'.cell? ⟨tb, 0, none⟩ = some (.int .i64 op) ∧ w'.cell? ⟨tb, 1, none⟩ = some (.int .i64 A) ∧ w'.cell? ⟨tb, 2, none⟩ = some (.int .i64 B)) (first | go_keep | exact ⟨u0, u1, u2⟩ | exact ⟨v0, v1, v2⟩ | exact ⟨x0, x1, x2⟩ | (trace_state; fail))
      (first
        | (go_at_call 8; refine (H8.out _ ?_).mono ?_; (first | exact HT1.out | exact HT1.out.below (Below.drew (Below.refl _ _))); rintro e w2 ⟨rfl, hb2⟩; have u0 := (hb2.cell (p := ⟨tb, 0, none⟩) hsz).trans t0'; have u1 := (hb2.cell (p := ⟨tb, 1, none⟩) hsz).trans t1'; have u2 := (hb2.cell (p := ⟨tb, 2, none⟩) hsz).trans t2'; have hs2 := Nat.lt_of_lt_of_le hsz hb2.size)
        | (go_at_call 9; refine (H9.out _).mono ?_; rintro e w3 ⟨rfl, hb3⟩; have v0 := (hb3.cell (p := ⟨tb, 0, none⟩) hs2).trans u0; have v1 := (hb3.cell (p := ⟨tb, 1, none⟩) hs2).trans u1; have v2 := (hb3.cell (p := ⟨tb, 2, none⟩) hs2).trans u2; have hs3 := Nat.lt_of_lt_of_le hs2 hb3.size)
        | (go_at_call 10; refine (jumps_any _ op).mono ?_; rintro e w4 ⟨rfl, rfl⟩)
        | (go_at_call 11; refine (rjumps_any _ op).mono ?_; rintro e w5 ⟨rfl, rfl⟩)
        | (go_at_call 12; refine (awake15_any _ ?_).mono ?_; exact HT1.out.below ((Below.drew (Below.refl _ _)).trans (hb2.trans (hb3.mono hb2.size))); rintro e w6 ⟨rfl, hb6⟩; have x0 := (hb6.cell (p := ⟨tb, 0, none⟩) hs3).trans v0; have x1 := (hb6.cell (p := ⟨tb, 1, none⟩) hs3).trans v1; have x2 := (hb6.cell (p := ⟨tb, 2, none⟩) hs3).trans v2))
    go_wp2_with fail
    go_ret
    exact ⟨rfl, HB1.out.trans ((((Below.drew (Below.refl W1.heap.size W1)).trans hb2).trans ((hb3.trans (hb6.mono hb3.size)).mono hb2.size)).mono HB1.out.size)⟩

end Go.Proofs.YthknbknmlnnhcaaGreatDoor
