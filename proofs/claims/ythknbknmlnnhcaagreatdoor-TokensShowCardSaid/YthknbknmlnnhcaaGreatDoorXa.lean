/- Walks: nat.digits; strings.Builder's Write. -/
import Derived.RangeFuncNested
import Derived.RangeFuncBound
import Derived.RangeFuncCalls
import Derived.RangeFuncLeaves
import Derived.RangeFuncBox
import Derived.Test.YthknbknmlnnhcaaGreatDoorWz
namespace Go.Proofs.YthknbknmlnnhcaaGreatDoor
open Go.RowKit Go.Proofs.YthknbknmlnnhcaaGreatDoorW.PrintWords Bob
set_option linter.unusedVariables false
set_option linter.unusedSimpArgs false

def dgAt (t x j : Nat) : Int := if 8 - j < t then ((48 + x / 10 ^ (8 - j) % 10 : Nat) : Int) else 0

theorem new_at (W : World) (cs : Array Value) (T : TypeId) (j : Nat) : (W.alloc (.cells cs T)).cell? ⟨W.heap.size, j, none⟩ = cs[j]? ∧ (W.alloc (.cells cs T)).frozen? ⟨W.heap.size, j, none⟩ = false :=
  ⟨Lib.cell_of_heap (heap_alloc_new W _) j, Lib.frozen_of_heap (heap_alloc_new W _) j⟩

set_option maxRecDepth 100000 in
set_option maxHeartbeats 800000 in
theorem digits_any (w : World) (x : Nat) (h : x < 4294967296) : Calls Tryz.prog 150 #[.int .u32 (x : Int)] w fun e w' => e = .returned (.agg ((pad 9 x).reverse.map (Value.int .u8)).toArray) ∧ Below w.heap.size w w' := by
  go_enter Tryz.func150, Tryz.ntmps150
  go_wp2
  go_loopg [5, 0] 9 (fun k v5 v0 w' => ∃ (t : Nat) (y : Nat), v5 = .int .i64 (t : Int) ∧ v0 = .int .u32 (y : Int) ∧ t + k = 9 ∧ y < 4294967296 ∧ Aside0 (y = x / 10 ^ t) ∧ Aside0 (∀ j, j < 9 → w'.cell? ⟨w.heap.size + 1, j, none⟩ = some (.int .u8 (dgAt t x j)) ∧ w'.frozen? ⟨w.heap.size + 1, j, none⟩ = false) ∧ Aside0 (∀ j, j < 9 → w'.cell? ⟨w.heap.size, j, none⟩ = some (.int .u8 0) ∧ w'.frozen? ⟨w.heap.size, j, none⟩ = false) ∧ Aside0 (Below w.heap.size w w'))
  case atStart =>
    refine ⟨0, x, rfl, rfl, rfl, h, ⟨by rw [Nat.pow_zero, Nat.div_one]⟩, ⟨fun j hj => ?_⟩, ⟨fun j hj => ?_⟩, ⟨below_alloc (below_alloc (Below.refl _ _) _) _⟩⟩
    · have hd : dgAt 0 x j = 0 := by rw [dgAt, if_neg (by omega)]
      rw [hd]
      have h1 := new_at (w.alloc (.cells #[.int .u8 0, .int .u8 0, .int .u8 0, .int .u8 0, .int .u8 0, .int .u8 0, .int .u8 0, .int .u8 0, .int .u8 0] 166)) #[.int .u8 0, .int .u8 0, .int .u8 0, .int .u8 0, .int .u8 0, .int .u8 0, .int .u8 0, .int .u8 0, .int .u8 0] 166 j
      rw [World.size_alloc] at h1
      refine ⟨h1.1.trans ?_, h1.2⟩
      match j, hj with
      | 0, _ | 1, _ | 2, _ | 3, _ | 4, _ | 5, _ | 6, _ | 7, _ | 8, _ => rfl
    · have h1 := new_at w #[.int .u8 0, .int .u8 0, .int .u8 0, .int .u8 0, .int .u8 0, .int .u8 0, .int .u8 0, .int .u8 0, .int .u8 0] 166 j
      have hb : Below (w.heap.size + 1) (w.alloc (.cells #[.int .u8 0, .int .u8 0, .int .u8 0, .int .u8 0, .int .u8 0, .int .u8 0, .int .u8 0, .int .u8 0, .int .u8 0] 166)) ((w.alloc (.cells #[.int .u8 0, .int .u8 0, .int .u8 0, .int .u8 0, .int .u8 0, .int .u8 0, .int .u8 0, .int .u8 0, .int .u8 0] 166)).alloc (.cells #[.int .u8 0, .int .u8 0, .int .u8 0, .int .u8 0, .int .u8 0, .int .u8 0, .int .u8 0, .int .u8 0, .int .u8 0] 166)) := (Below.refl _ _).alloc (by simp) _
      refine ⟨(hb.cell (p := ⟨w.heap.size, j, none⟩) (by simp)).trans (h1.1.trans ?_), (hb.frozen (p := ⟨w.heap.size, j, none⟩) (by simp)).trans h1.2⟩
      match j, hj with
      | 0, _ | 1, _ | 2, _ | 3, _ | 4, _ | 5, _ | 6, _ | 7, _ | 8, _ => rfl
  case round =>
    obtain ⟨t, y, rfl, rfl, hk, hy, HY, HC, HZ, HB⟩ := hrel
    by_cases ht : t < 9
    · obtain ⟨c1, c2⟩ := HC.out (8 - t) (by omega)
      obtain ⟨X, hX⟩ : ∃ X, X = dgAt t x (8 - t) := ⟨_, rfl⟩
      rw [← hX] at c1
      clear hX
      go_wp2
      go_roundg (gk - 1)
      case measure => omega
      case rel =>
        refine ⟨t + 1, y / 10, by go_num, by go_num, by omega, by omega, ⟨by rw [HY.out, Nat.pow_succ, Nat.div_div_eq_div_mul]⟩, ⟨fun j hj => ?_⟩, ⟨fun j hj => ?_⟩, ⟨HB.out.setCell (p := ⟨w.heap.size + 1, 8 - t, none⟩) (by simp) _⟩⟩
        · obtain ⟨d1, d2⟩ := HC.out j hj
          refine ⟨?_, by rw [World.frozen?_setCell]; exact d2⟩
          by_cases e : j = 8 - t
          · subst e
            rw [World.cell?_setCell_same' _ _ _ (by rw [d1]; rfl), dgAt, if_pos (by omega), HY.out, show 8 - (8 - t) = t by omega]
            congr 2
          · rw [World.cell?_setCell_other _ _ _ _ (by simp), d1, dgAt, dgAt]
            congr 2
            by_cases h1 : 8 - j < t
            · rw [if_pos h1, if_pos (by omega)]
            · rw [if_neg h1, if_neg (by omega)]
        · obtain ⟨d1, d2⟩ := HZ.out j hj
          exact ⟨by rw [World.cell?_setCell_other _ _ _ _ (by simp), d1], by rw [World.frozen?_setCell]; exact d2⟩
    · have HYY := HY
      obtain rfl : t = 9 := by omega
      obtain ⟨a0, b0⟩ := HC.out 0 (by omega)
      obtain ⟨a1, b1⟩ := HC.out 1 (by omega)
      obtain ⟨a2, b2⟩ := HC.out 2 (by omega)
      obtain ⟨a3, b3⟩ := HC.out 3 (by omega)
      obtain ⟨a4, b4⟩ := HC.out 4 (by omega)
      obtain ⟨a5, b5⟩ := HC.out 5 (by omega)
      obtain ⟨a6, b6⟩ := HC.out 6 (by omega)
      obtain ⟨a7, b7⟩ := HC.out 7 (by omega)
      obtain ⟨a8, b8⟩ := HC.out 8 (by omega)
      obtain ⟨z0, f0⟩ := HZ.out 0 (by omega)
      obtain ⟨z1, f1⟩ := HZ.out 1 (by omega)
      obtain ⟨z2, f2⟩ := HZ.out 2 (by omega)
      obtain ⟨z3, f3⟩ := HZ.out 3 (by omega)
      obtain ⟨z4, f4⟩ := HZ.out 4 (by omega)
      obtain ⟨z5, f5⟩ := HZ.out 5 (by omega)
      obtain ⟨z6, f6⟩ := HZ.out 6 (by omega)
      obtain ⟨z7, f7⟩ := HZ.out 7 (by omega)
      obtain ⟨z8, f8⟩ := HZ.out 8 (by omega)
      go_wp2
      refine bodyPost_ret (v := .agg #[.int .u8 (dgAt 9 x 0), .int .u8 (dgAt 9 x 1), .int .u8 (dgAt 9 x 2), .int .u8 (dgAt 9 x 3), .int .u8 (dgAt 9 x 4), .int .u8 (dgAt 9 x 5), .int .u8 (dgAt 9 x 6), .int .u8 (dgAt 9 x 7), .int .u8 (dgAt 9 x 8)]) ?_ rfl ⟨?_, ?_⟩
      · simp [results, Tryz.results150, go_sem, z0, z1, z2, z3, z4, z5, z6, z7, z8]
      · congr 3; simp [dgAt, pad, Nat.div_div_eq_div_mul]
      · exact ((((((((HB.out.setCell (p := ⟨w.heap.size, 0, none⟩) (Nat.le_refl _) _).setCell (p := ⟨w.heap.size, 1, none⟩) (Nat.le_refl _) _).setCell (p := ⟨w.heap.size, 2, none⟩) (Nat.le_refl _) _).setCell (p := ⟨w.heap.size, 3, none⟩) (Nat.le_refl _) _).setCell (p := ⟨w.heap.size, 4, none⟩) (Nat.le_refl _) _).setCell (p := ⟨w.heap.size, 5, none⟩) (Nat.le_refl _) _).setCell (p := ⟨w.heap.size, 6, none⟩) (Nat.le_refl _) _).setCell (p := ⟨w.heap.size, 7, none⟩) (Nat.le_refl _) _).setCell (p := ⟨w.heap.size, 8, none⟩) (Nat.le_refl _) _

/-- A strings.Builder in block b, below B; its row lies from B on. -/
def Bdr (b B : Nat) (bs : List Value) (w : World) : Prop := b < B ∧ ∃ p v, w.heap[b]? = some (.cells #[p, v] 88 (0, 0)) ∧ (p = .pointer none ∨ p = .pointer (some ⟨b, 0, none⟩)) ∧ w.ownsRow B 5 1 v bs.length bs
/-- Below B no block but b has turned. -/
def But (b B : Nat) (w w' : World) : Prop := Below b w w' ∧ ∀ k, k < B → k ≠ b → w'.heap[k]? = w.heap[k]?
theorem But.trans {b B : Nat} {x y z : World} (h : But b B x y) (k : But b B y z) : But b B x z := ⟨h.1.trans k.1, fun i hi hb => (k.2 i hi hb).trans (h.2 i hi hb)⟩
theorem But.of {b B : Nat} {w w' : World} (h : Below B w w') (hb : b ≤ B) : But b B w w' := ⟨h.mono hb, fun k hk _ => h.block k hk⟩
theorem But.put {b B : Nat} {w w' : World} (h : But b B w w') (i : Nat) (u : Value) : But b B w (w'.setCell ⟨b, i, none⟩ u) :=
  ⟨h.1.setCell (p := ⟨b, i, none⟩) (Nat.le_refl _) u, fun k hk hb => (Below.heap_setCell _ _ _ _ hb).trans (h.2 k hk hb)⟩
theorem KeepsOthers.of_below {W W' : World} (h : Below W.heap.size W W') : KeepsOthers W W' :=
  ⟨h.size, fun k o hk _ => (h.block k (by rcases Nat.lt_or_ge k W.heap.size with h' | h'; exact h'; simp [Array.getElem?_eq_none h'] at hk)).trans hk⟩
theorem Bdr.kept {b B : Nat} {bs : List Value} {W W' : World} {row : Option Nat} (h : Bdr b B bs W) (hg : W.grownBy W' row) (hr : ∀ r, row = some r → B ≤ r ∧ ∃ o : Obj, W.heap[r]? = some o ∧ o.isCells = false) : Bdr b B bs W' := by
  obtain ⟨hb, p, v, h1, h2, h3⟩ := h
  refine ⟨hb, p, v, ?_, h2, ?_⟩
  · refine (hg.block b ?_ fun e => ?_).trans h1
    · rcases Nat.lt_or_ge b W.heap.size with h' | h'
      · exact h'
      · simp [Array.getElem?_eq_none h'] at h1
    · have := (hr b e.symm).1; omega
  · refine h3.kept hg ?_
    rcases h3.2 with ⟨rfl, _⟩ | ⟨g', cap', cur, rfl, _, hg', _⟩
    · exact .inl rfl
    · refine .inr fun e => ?_
      obtain ⟨o, ho, hc⟩ := (hr g' e.symm).2
      rw [hg'] at ho
      injection ho with ho
      rw [← ho] at hc
      cases hc
theorem Bdr.below {b B : Nat} {bs : List Value} {W W' : World} (h : Bdr b B bs W) (hb : Below W.heap.size W W') : Bdr b B bs W' :=
  h.kept (row := none) ⟨hb.os, hb.tape, hb.output, hb.size, fun k hk _ => hb.block k hk⟩ (fun r e => by cases e)
theorem But.kept {b B : Nat} {w W W' : World} {row : Option Nat} (h : But b B w W) (hs : B ≤ W.heap.size) (hbB : b ≤ B) (hg : W.grownBy W' row) (hr : ∀ r, row = some r → B ≤ r) : But b B w W' :=
  h.trans (But.of ((Below.refl B W).grown hg hs hr) hbB)
theorem Bdr.is {b B : Nat} {bs : List Value} {w : World} (h : Bdr b B bs w) : Lib.IsBuilder 88 5 b b bs w := by
  obtain ⟨hb, p, v, h1, h2, h3⟩ := h
  have hne : v.ownBlock ≠ some b := fun e => by have := (h3.lt b e).1; omega
  have h4 : w.ownsRow b 5 1 v bs.length bs := by
    refine ⟨h3.1, h3.2.imp id ?_⟩
    rintro ⟨g, cap, cur, e, hg, r⟩
    exact ⟨g, cap, cur, e, by omega, r⟩
  rcases h2 with rfl | rfl
  · exact .inl ⟨Nat.le_refl _, v, h1, h4, hne⟩
  · exact .inr ⟨Nat.le_refl _, v, h1, h4, hne⟩

set_option maxHeartbeats 2000000 in
set_option maxRecDepth 100000 in
/-- (*strings.Builder).Write of a row that lies in another block. -/
theorem write_any (b B g m : Nat) (bs news : List Value) (w : World) (h : Bdr b B bs w) (hgb : g ≠ b) (hm : news.length = m) (h1c : ∀ u ∈ news, u.oneCell' = true) (hc : ∀ (j : Nat) u, news[j]? = some u → w.cell? ⟨g, j, none⟩ = some u) (hlen : bs.length + m ≤ 140737488355328) (hBw : B ≤ w.heap.size) :
    Calls Tryz.prog 151 #[.pointer (some ⟨b, 0, none⟩), .slice (some ⟨g, 0, none⟩) m m] w fun e w' => e = .returned (.tuple #[.int .i64 m, .nilIface]) ∧ (Bdr b B (bs ++ news) w' ∧ But b B w w' ∧ KeepsOthers w w') := by
  obtain ⟨i0, hi, hz0, hz1, hz2⟩ := info_parts info5
  have hbB := h.1
  have hcc : Calls Tryz.prog 118 #[.pointer (some ⟨b, 0, none⟩)] w fun e w' => e = .returned (.tuple #[]) ∧ (Lib.BuilderAt 88 5 b b (.pointer (some ⟨b, 0, none⟩)) bs w' ∧ Below b w w') ∧ Bdr b B bs w' ∧ But b B w w' ∧ KeepsOthers w w' ∧ ∀ (j : Nat) u, news[j]? = some u → w'.cell? ⟨g, j, none⟩ = some u := by
    obtain ⟨_, p, v, hbk, hp, hown⟩ := h
    have hne : v.ownBlock ≠ some b := fun e => by have := (hown.lt b e).1; omega
    rcases Bdr.is ⟨hbB, p, v, hbk, hp, hown⟩ with h | h
    · refine (Any.Builder_copyCheck_fresh { Tryz.lays165 with } Tryz.Builder_Extra_165.toX72 b w h.cell0 h.shape h.frozen0).mono ?_
      rintro e w' ⟨rfl, rfl⟩
      refine ⟨rfl, ⟨h.used _, (Below.refl b w).setCell (p := ⟨b, 0, none⟩) h.1 _⟩, ⟨hbB, _, v, ?_, .inr rfl, ?_⟩, But.put (But.of (Below.refl B w) (by omega)) 0 _, KeepsOthers.setCell _ _ _, fun j u hj => by rw [World.cell?_setCell_other _ _ _ _ (by simp)]; exact hc j u hj⟩
      · simp [World.setCell, Array.getElem?_modify, hbk]
      · exact hown.kept (row := some b) ⟨rfl, rfl, rfl, by simp [World.setCell], fun k _ hk => Below.heap_setCell _ _ _ _ (fun e => hk (by simp [e]))⟩ (Or.inr hne)
    · refine (Any.Builder_copyCheck_used { Tryz.lays165 with } Tryz.Builder_Extra_165.toX72 b w h.cell0).mono ?_
      rintro e w' ⟨rfl, rfl⟩
      exact ⟨rfl, ⟨h, Below.refl b _⟩, ⟨hbB, p, v, hbk, hp, hown⟩, But.of (Below.refl B _) (by omega), KeepsOthers.refl _, hc⟩
  go_enter Tryz.func151, Tryz.ntmps151
  go_wp2_with (go_at_call 118; refine hcc.mono ?_)
  rintro e w1 ⟨rfl, ⟨h1, hb0⟩, h2, hb1, hko, hc1⟩
  obtain ⟨hB, v, hbk, hown0, hne⟩ := h1
  obtain ⟨_, p', v', hbk', _, hown⟩ := h2
  obtain rfl : v = v' := by
    have := hbk.symm.trans hbk'
    simp at this
    exact this.2
  have c0 : w1.cell? ⟨b, 0, none⟩ = some (.pointer (some ⟨b, 0, none⟩)) := by rw [Lib.cell_of_heap hbk]; rfl
  have c1 : w1.cell? ⟨b, 1, none⟩ = some v := by rw [Lib.cell_of_heap hbk]; rfl
  go_wp2_with (at_builtin; refine wpList_append_own _ rfl _ _ 86 rfl B 5 i0 (.int .u8 0) 1 1 Tryz.underlying86 hi hz0 hz1 hz2 rfl (by decide) _ _ _ rfl hown ⟨g, 0, none⟩ m m news rfl (by omega) ?c1 ?c2 ?c3 ?c4 ?c5 ?_)
  case c1 =>
    intro j u hj
    rw [show (Addr.mk g 0 none).add j = ⟨g, j, none⟩ by unfold Addr.add; split <;> simp_all]
    exact hc1 j u hj
  case c2 => exact h1c
  case c3 => unfold maxLen; omega
  case c4 => omega
  case c5 => have := hb1.1.size; omega
  intro v' w2 hown' hgrow _
  have HGR := hgrow
  have hlt : b < w1.heap.size := by
    rcases Nat.lt_or_ge b w1.heap.size with h' | h'
    · exact h'
    · simp [Array.getElem?_eq_none h'] at hbk
  have hb2 : w2.heap[b]? = some (.cells #[.pointer (some ⟨b, 0, none⟩), v] 88 (0, 0)) := by
    rw [hgrow.block b hlt (fun e => hne e.symm)]
    exact hbk
  have d0 : w2.cell? ⟨b, 0, none⟩ = some (.pointer (some ⟨b, 0, none⟩)) := by rw [Lib.cell_of_heap hb2]; rfl
  have d1 : w2.cell? ⟨b, 1, none⟩ = some v := by rw [Lib.cell_of_heap hb2]; rfl
  have f1 : w2.frozen? ⟨b, 1, none⟩ = false := Lib.frozen_of_heap hb2 1
  obtain ⟨ao, n', cap, rfl⟩ : ∃ ao n' cap, v' = .slice ao n' cap := by
    rcases hown'.2 with ⟨hv, _⟩ | ⟨g, cap, cur, hv, _⟩
    · exact ⟨_, _, _, hv⟩
    · exact ⟨_, _, _, hv⟩
  go_wp2
  go_ret2
  refine ⟨rfl, ?_, ?_, ?_⟩
  · refine ⟨hbB, .pointer (some ⟨b, 0, none⟩), .slice ao n' cap, ?_, .inr rfl, ?_⟩
    · simp [World.setCell, Array.getElem?_modify, hb2]
    · refine World.ownsRow.kept (row := some b) (w := w2) (by simpa [hm] using hown') ⟨rfl, rfl, rfl, by simp [World.setCell], fun k _ hk => Below.heap_setCell _ _ _ _ (fun e => hk (by simp [e]))⟩ (Or.inr fun e => ?_)
      have := (hown'.lt b e).1
      omega
  · refine But.put (hb1.trans (But.of ((Below.refl B w1).grown hgrow (by have := hb1.1.size; omega) (fun k hk => (hown.lt k hk).1)) (by omega))) 1 _
  · refine (hko.trans (KeepsOthers.of_grownBy hgrow fun j o hj ho => ?_)).trans (KeepsOthers.setCell _ _ _)
    rcases hown.2 with ⟨rfl, _⟩ | ⟨g', cap', cur, rfl, _, hg', _⟩
    · cases hj
    · injection hj with hj
      subst hj
      rw [hg'] at ho
      injection ho with ho
      rw [← ho]
      rfl

set_option maxHeartbeats 1000000 in
set_option maxRecDepth 100000 in
/-- (*strings.Builder).String of a builder that holds a byte: what is no cells stays. -/
theorem string_any (b B : Nat) (l : List UInt8) (w : World) (h : Bdr b B (Lib.byteCells l) w) (h0 : l ≠ []) :
    Calls Tryz.prog 69 #[.pointer (some ⟨b, 0, none⟩)] w fun e w' => e = .returned (.string ⟨l.toArray⟩) ∧ But b B w w' ∧ KeepsOthers w w' := by
  obtain ⟨hbB, p, v, hbk, hp, hown⟩ := h
  have X := Tryz.Builder_Extra_169
  have L := Tryz.lays169
  have hl0 : l.length ≠ 0 := by simpa using h0
  rw [Lib.byteCells_length] at hown
  obtain ⟨g, cap, cur, rfl, hbg, hg, hnc, hcm, hcs, htake⟩ : ∃ g cap cur, v = .slice (some ⟨g, 0, none⟩) l.length cap ∧ B ≤ g ∧ w.heap[g]? = some (.cells cur 5 (0, 0)) ∧ l.length ≤ cap ∧ cap ≤ maxLen ∧ cur.size = cap * 1 ∧ cur.toList.take (l.length * 1) = Lib.byteCells l := by
    rcases hown.2 with ⟨_, hz⟩ | ⟨g, cap, cur, hv, r⟩
    · exact absurd hz hl0
    · exact ⟨g, cap, cur, hv, r⟩
  have c1 : w.drew.cell? ⟨b, 1, none⟩ = some (.slice (some ⟨g, 0, none⟩) l.length cap) := by
    have : w.drew.heap[b]? = some (.cells #[p, .slice (some ⟨g, 0, none⟩) l.length cap] 88 (0, 0)) := hbk
    rw [Lib.cell_of_heap this]; rfl
  have hSD : (Builtin.unsafeSliceData_ #[86] 137 #[.slice (some ⟨g, 0, none⟩) l.length cap]).run Tryz.prog w.drew = .ok (.pointer (some ⟨g, 0, none⟩)) w.drew :=
    Lib.run_unsafeSliceData_row _ _ _ _ _ _ (by omega)
  have hUS : (Builtin.unsafeString_ #[137, 3] 9 #[.pointer (some ⟨g, 0, none⟩), .int .i64 l.length]).run Tryz.prog w.drew = .ok (.string ⟨l.toArray⟩) (w.drew.freeze ⟨g, 0, none⟩ l.length) := by
    refine Lib.run_unsafeString_row w.drew 137 3 9 5 L.t127 X.cellsByte g cur.size (by have hg' : w.drew.heap[g]? = some (.cells cur 5 (0, 0)) := hg; simp [World.shape?, hg']) l h0 (by omega) (by unfold maxLen at hcm; omega) ?_
    intro j x hx
    have := hown.cells (g := g) rfl j (.int .u8 x.toNat) (by simp [Lib.byteCells, hx])
    exact this
  have hK : KeepsOthers w (w.drew.freeze ⟨g, 0, none⟩ l.length) := by
    refine ⟨by unfold World.freeze; split <;> simp, fun k o hk ho => ?_⟩
    have hk' : w.drew.heap[k]? = some o := hk
    unfold World.freeze
    split
    · exact hk'
    · simp only [Array.getElem?_modify]
      split
      · rename_i e
        rw [hk']
        have e' : k = g := by simpa using e.symm
        subst e'
        rw [hg] at hk
        injection hk with hk
        rw [← hk] at ho
        cases ho
      · exact hk'
  have hB : Below B w (w.drew.freeze ⟨g, 0, none⟩ l.length) := Lib.below_freeze (Below.drew (Below.refl B w)) (p := ⟨g, 0, none⟩) hbg _
  clear X L
  go_enter Tryz.func69, Tryz.ntmps69
  go_wp2
  go_region
  all_goals (go_wp2; go_ret; exact ⟨rfl, But.of hB (by omega), hK⟩)

end Go.Proofs.YthknbknmlnnhcaaGreatDoor
