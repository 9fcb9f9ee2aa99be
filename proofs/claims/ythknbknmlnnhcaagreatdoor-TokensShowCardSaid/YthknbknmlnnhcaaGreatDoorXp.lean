/- Walks: tokens.New, Open, is, Emit; bobbinlaw15.awake. -/
import Derived.Test.YthknbknmlnnhcaaGreatDoorXo
namespace Go.Proofs.YthknbknmlnnhcaaGreatDoor
open Go.RowKit Go.Proofs.YthknbknmlnnhcaaGreatDoorW.PrintWords Bob
set_option linter.unusedVariables false
set_option linter.unusedSimpArgs false

theorem new_any (w : World) : Calls Tryz.prog 31 #[] w fun e w' => e = .returned (.pointer (some ⟨w.heap.size, 0, none⟩)) ∧ w' = w.alloc (.cells #[.slice none 0 0, .int .i64 0] 97) := by
  go_enter Tryz.func31, Tryz.ntmps31
  go_wp2
  go_ret
  exact ⟨rfl, rfl⟩
theorem one_lit (W : World) (v : Value) (T : TypeId) (j : Nat) (u : Value) (hj : [v][j]? = some u) : (W.alloc (.cells #[v] T)).cell? ((Addr.mk W.heap.size 0 none).add j) = some u := by
  rw [show (Addr.mk W.heap.size 0 none).add j = ⟨W.heap.size, j, none⟩ by unfold Addr.add; split <;> simp_all]
  rw [(new_at W #[v] T j).1, ← Array.getElem?_toList]
  exact hj
theorem lit3 (W : World) (u0 u1 u2 : Value) (T : TypeId) (j : Nat) (u : Value) (hj : [u0, u1, u2][j]? = some u) : (W.alloc (.cells #[u0, u1, u2] T)).cell? ((Addr.mk W.heap.size 0 none).add j) = some u := by
  rw [show (Addr.mk W.heap.size 0 none).add j = ⟨W.heap.size, j, none⟩ by unfold Addr.add; split <;> simp_all]
  rw [(new_at W #[u0, u1, u2] T j).1, ← Array.getElem?_toList]
  exact hj
theorem info98 : (Tryz.prog.info? 98).map (fun i => (i.zero, i.size, i.bytes)) = some (some (.slice none 0 0), 1, 24) := by kernel_rfl
theorem info23 : (Tryz.prog.info? 23).map (fun i => (i.zero, i.size, i.bytes)) = some (some (.agg #[.int .i64 0, .int .i64 0, .int .i64 0]), 3, 24) := by kernel_rfl
set_option maxRecDepth 100000 in
theorem open_any (w : World) (g : Nat) (hg : w.heap[g]? = some (.cells #[.slice none 0 0, .int .i64 0] 97 (0, 0))) :
    Calls Tryz.prog 32 #[.pointer (some ⟨g, 0, none⟩)] w fun e w' => ∃ h c, e = .returned (.tuple #[.int .i64 1, .int .i64 0]) ∧ Below g w w' ∧ w'.heap[g]? = some (.cells #[.slice (some ⟨h, 0, none⟩) 1 c, .int .i64 0] 97 (0, 0)) ∧ g < h ∧ w'.ownsRow (g + 1) 98 1 (.slice (some ⟨h, 0, none⟩) 1 c) 1 [.slice none 0 0] := by
  have c0 : w.cell? ⟨g, 0, none⟩ = some (.slice none 0 0) := by rw [Lib.cell_of_heap hg]; rfl
  have hlt : g < w.heap.size := by
    rcases Nat.lt_or_ge g w.heap.size with h' | h'
    · exact h'
    · simp [Array.getElem?_eq_none h'] at hg
  obtain ⟨i0, hi, hz0, hz1, hz2⟩ := info_parts info98
  go_enter Tryz.func32, Tryz.ntmps32
  go_wp2_with (at_builtin; refine wpList_append_own _ rfl _ _ 95 rfl (g + 1) 98 i0 (.slice none 0 0) 1 24 Tryz.underlying95 hi hz0 hz1 hz2 rfl (by decide) _ _ _ rfl (World.ownsRow_nil _ _ _ _) ⟨w.heap.size, 0, none⟩ 1 1 [.slice none 0 0] (by rfl) (by rfl) ?c1 ?c2 ?c3 ?c4 ?c5 ?_)
  case c1 => exact one_lit w _ 98
  case c2 => intro u hu; simp at hu; subst hu; rfl
  case c3 => unfold maxLen; omega
  case c4 => omega
  case c5 => simp; omega
  intro v' w2 hown' hgrow _
  obtain ⟨h, c, rfl, hh⟩ : ∃ h c, v' = .slice (some ⟨h, 0, none⟩) 1 c ∧ g + 1 ≤ h := by
    rcases hown'.2 with ⟨_, h0⟩ | ⟨h, c, cur, hv, hh, _⟩
    · omega
    · exact ⟨h, c, hv, hh⟩
  have hg2 : w2.heap[g]? = some (.cells #[.slice none 0 0, .int .i64 0] 97 (0, 0)) := by
    rw [hgrow.block g (by simp; omega) (fun e => by simp [Value.ownBlock] at e)]
    rw [Below.heap_alloc _ _ _ hlt]; exact hg
  have d0 : w2.cell? ⟨g, 0, none⟩ = some (.slice none 0 0) := by rw [Lib.cell_of_heap hg2]; rfl
  have f0 : w2.frozen? ⟨g, 0, none⟩ = false := Lib.frozen_of_heap hg2 0
  have hg3 : (w2.setCell ⟨g, 0, none⟩ (.slice (some ⟨h, 0, none⟩) 1 c)).heap[g]? = some (.cells #[.slice (some ⟨h, 0, none⟩) 1 c, .int .i64 0] 97 (0, 0)) := by
    simp [World.setCell, Array.getElem?_modify, hg2]
  have e0 : (w2.setCell ⟨g, 0, none⟩ (.slice (some ⟨h, 0, none⟩) 1 c)).cell? ⟨g, 0, none⟩ = some (.slice (some ⟨h, 0, none⟩) 1 c) := by rw [Lib.cell_of_heap hg3]; rfl
  have HB := Aside0.mk (show Below g w (w2.setCell ⟨g, 0, none⟩ (.slice (some ⟨h, 0, none⟩) 1 c)) from
    ((((Below.refl g w).alloc (by omega) _).grown hgrow (by simp; omega) (fun k hk => by simp [Value.ownBlock] at hk)).setCell (p := ⟨g, 0, none⟩) (Nat.le_refl _) _))
  have HO := Aside0.mk (show (w2.setCell ⟨g, 0, none⟩ (.slice (some ⟨h, 0, none⟩) 1 c)).ownsRow (g + 1) 98 1 (.slice (some ⟨h, 0, none⟩) 1 c) 1 [.slice none 0 0] from
    World.ownsRow.kept (row := some g) (w := w2) hown' ⟨rfl, rfl, rfl, by simp [World.setCell], fun k _ hk => Below.heap_setCell _ _ _ _ (fun e => hk (by simp [e]))⟩ (Or.inr (by simp [Value.ownBlock]; omega)))
  have HG3 := Aside0.mk hg3
  clear hown' hgrow hg3
  go_wp2
  exact bodyPost_ret (v := .tuple #[.int .i64 1, .int .i64 0]) (by simp [results, Tryz.results32, go_sem]) rfl ⟨h, c, rfl, HB.out, HG3.out, by omega, HO.out⟩

theorem is_any (w : World) (g h c : Nat) (hg : w.heap[g]? = some (.cells #[.slice (some ⟨h, 0, none⟩) 1 c, .int .i64 0] 97 (0, 0))) :
    Calls Tryz.prog 71 #[.pointer (some ⟨g, 0, none⟩), .int .i64 1] w fun e w' => e = .returned (.bool true) ∧ w' = w := by
  have c0 : w.cell? ⟨g, 0, none⟩ = some (.slice (some ⟨h, 0, none⟩) 1 c) := by rw [Lib.cell_of_heap hg]; rfl
  go_enter Tryz.func71, Tryz.ntmps71
  go_wp2
  go_ret
  exact ⟨rfl, rfl⟩

set_option maxRecDepth 100000 in
set_option maxHeartbeats 2000000 in
theorem emit_any (w : World) (g h c : Nat) (hg : w.heap[g]? = some (.cells #[.slice (some ⟨h, 0, none⟩) 1 c, .int .i64 0] 97 (0, 0))) (hgh : g < h) (hown : w.ownsRow (g + 1) 98 1 (.slice (some ⟨h, 0, none⟩) 1 c) 1 [.slice none 0 0]) :
    Calls Tryz.prog 33 #[.pointer (some ⟨g, 0, none⟩), .int .i64 1, .agg #[.int .i64 2, .int .i64 5, .int .i64 0]] w fun e w' => e = .returned (.tuple #[.int .i64 0, .int .i64 0]) ∧ Below g w w' := by
  have c0 : w.cell? ⟨g, 0, none⟩ = some (.slice (some ⟨h, 0, none⟩) 1 c) := by rw [Lib.cell_of_heap hg]; rfl
  have c1 : w.cell? ⟨g, 1, none⟩ = some (.int .i64 0) := by rw [Lib.cell_of_heap hg]; rfl
  have f1 : w.frozen? ⟨g, 1, none⟩ = false := Lib.frozen_of_heap hg 1
  have ch : w.cell? ⟨h, 0, none⟩ = some (.slice none 0 0) := by
    have := hown.cells (g := h) rfl 0 (.slice none 0 0) rfl
    simpa [Addr.add] using this
  have fh : w.frozen? ⟨h, 0, none⟩ = false := by
    rcases hown.2 with ⟨e, _⟩ | ⟨g', cap', cur, e, _, hg', _⟩
    · cases e
    · injection e with e1 e2 e3
      injection e1 with e1
      injection e1 with e1
      subst e1
      exact Lib.frozen_of_heap hg' 0
  have hlt : g < w.heap.size := by
    rcases Nat.lt_or_ge g w.heap.size with h' | h'
    · exact h'
    · simp [Array.getElem?_eq_none h'] at hg
  have hhlt : h < w.heap.size := (hown.lt h rfl).2
  have IS := Aside0.mk (is_any (w.alloc (.cells #[.int .i64 2, .int .i64 5, .int .i64 0] 23)) g h c (by rw [Below.heap_alloc _ _ _ hlt]; exact hg))
  obtain ⟨i0, hi, hz0, hz1, hz2⟩ := info_parts info23
  have HB0 := Aside0.mk (show Below w.heap.size w (w.alloc (.cells #[.int .i64 2, .int .i64 5, .int .i64 0] 23)) from below_alloc (Below.refl _ _) _)
  go_enter Tryz.func33, Tryz.ntmps33
  go_wp2_with fail
  have t0 := (new_at w #[.int .i64 2, .int .i64 5, .int .i64 0] 23 0).1
  have t1 := (new_at w #[.int .i64 2, .int .i64 5, .int .i64 0] 23 1).1
  have t2 := (new_at w #[.int .i64 2, .int .i64 5, .int .i64 0] 23 2).1
  have d0 := (HB0.out.cell (p := ⟨g, 0, none⟩) hlt).trans c0
  have d1 := (HB0.out.cell (p := ⟨g, 1, none⟩) hlt).trans c1
  have df := (HB0.out.frozen (p := ⟨g, 1, none⟩) hlt).trans f1
  have dh := (HB0.out.cell (p := ⟨h, 0, none⟩) hhlt).trans ch
  have dfh := (HB0.out.frozen (p := ⟨h, 0, none⟩) hhlt).trans fh
  obtain ⟨tb, htb⟩ : ∃ tb, tb = w.heap.size := ⟨_, rfl⟩
  obtain ⟨W1, hW1⟩ : ∃ W1, W1 = w.alloc (.cells #[.int .i64 2, .int .i64 5, .int .i64 0] 23) := ⟨_, rfl⟩
  have HSZ := Aside0.mk (show tb < W1.heap.size by rw [hW1, htb]; simp)
  have HBG := Aside0.mk (show Below g w W1 by rw [hW1]; exact HB0.out.mono (by omega))
  have hgt : g < tb := by omega
  have hht : h < tb := by omega
  rw [← hW1] at t0 t1 t2 d0 d1 df dh dfh IS ⊢
  rw [← htb] at t0 t1 t2 ⊢
  have t0' : W1.cell? ⟨tb, 0, none⟩ = some (.int .i64 2) := t0
  have t1' : W1.cell? ⟨tb, 1, none⟩ = some (.int .i64 5) := t1
  have t2' : W1.cell? ⟨tb, 2, none⟩ = some (.int .i64 0) := t2
  clear hW1 htb c0 c1 f1 ch fh t0 t1 t2 hlt hhlt
  refine IS.out.mono ?_
  rintro e w1 ⟨rfl, rfl⟩
  have hne1 : h ≠ g := by omega
  have hne2 : tb ≠ g := by omega
  go_wp2_with fail
  obtain ⟨W2, hW2⟩ : ∃ W2, W2 = w1.setCell ⟨g, 1, none⟩ (.int .i64 1) := ⟨_, rfl⟩
  have s0 : W2.cell? ⟨g, 0, none⟩ = some (.slice (some ⟨h, 0, none⟩) 1 c) := by rw [hW2, World.cell?_setCell_other _ _ _ _ (by simp)]; exact d0
  have s1 : W2.cell? ⟨h, 0, none⟩ = some (.slice none 0 0) := by rw [hW2, World.cell?_setCell_other _ _ _ _ (by simp)]; exact dh
  have s2 : W2.frozen? ⟨h, 0, none⟩ = false := by rw [hW2, World.frozen?_setCell]; exact dfh
  have s3 : W2.cell? ⟨tb, 0, none⟩ = some (.int .i64 2) := by rw [hW2, World.cell?_setCell_other _ _ _ _ (by simp)]; exact t0'
  have s4 : W2.cell? ⟨tb, 1, none⟩ = some (.int .i64 5) := by rw [hW2, World.cell?_setCell_other _ _ _ _ (by simp)]; exact t1'
  have s5 : W2.cell? ⟨tb, 2, none⟩ = some (.int .i64 0) := by rw [hW2, World.cell?_setCell_other _ _ _ _ (by simp)]; exact t2'
  have HB2 := Aside0.mk (show Below g w W2 by rw [hW2]; exact HBG.out.setCell (p := ⟨g, 1, none⟩) (Nat.le_refl _) _)
  have HS2 := Aside0.mk (show W2.heap.size = w1.heap.size by rw [hW2]; simp)
  have hbt : tb < W2.heap.size := by rw [HS2.out]; exact HSZ.out
  rw [← hW2]
  clear hW2 d0 d1 df dh dfh t0' t1' t2'
  have hw0 : IntKind.i64.wrap 0 = 0 := by decide
  have hw1 : IntKind.i64.wrap (1 - 1) = 0 := by decide
  have hhW : h < W2.heap.size := by omega
  have hgW : g < W2.heap.size := by omega
  go_region_law
    (refine step_append_lies _ (by rfl) (.tmp 39) (.tmp 41) 98 (by rfl) (g + 1) 23 i0 (.agg #[.int .i64 0, .int .i64 0, .int .i64 0]) 3 24 Tryz.underlying98 hi hz0 hz1 hz2 (by rfl) (by decide) _ 0 [] (by rfl) (World.ownsRow_nil _ _ _ _) ⟨W2.heap.size, 0, none⟩ 1 1 [.int .i64 2, .int .i64 5, .int .i64 0] (by rfl) (by rfl) (lit3 W2 _ _ _ 23) (by intro u hu; simp at hu; rcases hu with e | e | e <;> (subst e; rfl)) (by decide) (by unfold maxLen; decide) (by decide) (by simp; omega) _ rfl ?_; intro g2 cap w4 hown1 hgrow hat hlt2; have HB4 := Aside0.mk (show Below W2.heap.size W2 w4 from ((below_alloc (Below.refl W2.heap.size W2) _).drew).grown hgrow (by simp) (fun k hk => by simp [Value.ownBlock] at hk)); have p0 := (HB4.out.cell (p := ⟨g, 0, none⟩) hgW).trans s0; have p1 := (HB4.out.cell (p := ⟨h, 0, none⟩) hhW).trans s1; have p2 := (HB4.out.frozen (p := ⟨h, 0, none⟩) hhW).trans s2)
  all_goals
    go_wp2_with fail
    exact bodyPost_ret (v := .tuple #[.int .i64 0, .int .i64 0]) (by simp [results, Tryz.results33, go_sem]) rfl ⟨rfl, (HB2.out.trans (HB4.out.mono (Nat.le_of_lt hgW))).setCell (p := ⟨h, 0, none⟩) (Nat.le_of_lt hgh) _⟩

end Go.Proofs.YthknbknmlnnhcaaGreatDoor
