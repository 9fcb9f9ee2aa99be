/- Walks: decimal.join, zeros, Science's part. -/
import Derived.Test.YthknbknmlnnhcaaGreatDoorXi
namespace Go.Proofs.YthknbknmlnnhcaaGreatDoor
open Go.RowKit Go.Proofs.YthknbknmlnnhcaaGreatDoorW.PrintWords Bob
set_option linter.unusedVariables false
set_option linter.unusedSimpArgs false

theorem join_nil_sep (L : List (List UInt8)) : Lib.join L [] = L.flatten := by
  cases L with
  | nil => rfl
  | cons x r => rw [Lib.join_cons]; simp [Lib.joinTail]
theorem S_map (L : List (List UInt8)) : (L.map S).map (·.data.toList) = L := by
  rw [List.map_map]
  conv => rhs; rw [← List.map_id L]
  refine List.map_congr_left fun x _ => ?_
  simp [S]
/-- strings.Join of a row of pieces that lies in a block. -/
theorem join_row (w : World) (bk c : Nat) (L : List (List UInt8)) (sep : List UInt8) (hbk : bk < w.heap.size) (hc : L.length ≤ c) (hl : (Lib.join L sep).length ≤ 1000000) (hn : L.length ≤ 1000000)
    (hcells : ∀ (j : Nat) x, L[j]? = some x → w.cell? ⟨bk, j, none⟩ = some (.string (S x))) :
    Calls Tryz.prog 28 #[.slice (some ⟨bk, 0, none⟩) L.length c, .string (S sep)] w fun e w' => e = .returned (.string (S (Lib.join L sep))) ∧ Below w.heap.size w w' := by
  have h := Tryz.strings_Join bk 0 c (L.map S) (S sep) w (fun j x hj => by
    rw [Nat.zero_add]
    rw [List.getElem?_map] at hj
    cases h : L[j]? with
    | none => rw [h] at hj; cases hj
    | some y => rw [h] at hj; injection hj with hj; rw [← hj]; exact hcells j y h) hbk (by rw [List.length_map]; omega) (by rw [List.length_map]; exact hc) (by rw [S_map, show (S sep).data.toList = sep by simp [S]]; omega)
  rw [S_map, List.length_map, show (S sep).data.toList = sep by simp [S]] at h
  exact h
theorem join_any (w : World) (bk c : Nat) (L : List (List UInt8)) (hbk : bk < w.heap.size) (hc : L.length ≤ c) (hl : L.flatten.length ≤ 1000000) (hn : L.length ≤ 1000000)
    (hcells : ∀ (j : Nat) x, L[j]? = some x → w.cell? ⟨bk, j, none⟩ = some (.string (S x))) :
    Calls Tryz.prog 57 #[.slice (some ⟨bk, 0, none⟩) L.length c] w fun e w' => e = .returned (.string (S L.flatten)) ∧ Below w.heap.size w w' := by
  have h := join_row w bk c L [] hbk hc (by rw [join_nil_sep]; exact hl) hn hcells
  rw [join_nil_sep] at h
  go_enter Tryz.func57, Tryz.ntmps57
  go_wp2_with (go_at_call 28; refine h.mono ?_; rintro e w1 ⟨rfl, hb⟩)
  go_ret
  exact ⟨rfl, hb⟩
theorem zeros_any (w : World) (z : Int) (h1 : z ≤ 100000) : Calls Tryz.prog 58 #[.int .i64 z] w fun e w' => e = .returned (.string (S (List.replicate z.toNat 48))) ∧ Below w.heap.size w w' := by
  obtain ⟨m, hm, hm2⟩ : ∃ m : Nat, max z 0 = (m : Int) ∧ m = z.toNat := ⟨z.toNat, by omega, rfl⟩
  have hm4 : m ≤ 100000 := by omega
  rw [← hm2]
  clear hm2
  have hrp : ({ data := (Lib.repeatL ({ data := #[48] } : ByteArray).data.toList m).toArray } : ByteArray) = S (List.replicate m 48) := by
    rw [show ({ data := #[48] } : ByteArray).data.toList = [48] from rfl, repeat_one]; rfl
  go_enter Tryz.func58, Tryz.ntmps58
  go_wp2_with fail
  refine (Tryz.strings_Repeat { data := #[48] } m w (by omega) (by show 1 * m ≤ _; omega)).mono ?_
  rw [hrp]
  rintro e w1 ⟨rfl, hb1⟩
  go_wp2_with fail
  go_ret
  exact ⟨rfl, hb1⟩
/-- The cells of a row of pieces that was laid. -/
theorem row_cells (W : World) (cs : Array Value) (L : List (List UInt8)) (T : TypeId) (h : cs.toList = L.map fun x => Value.string (S x)) (j : Nat) (x : List UInt8) (hj : L[j]? = some x) :
    (W.alloc (.cells cs T)).cell? ⟨W.heap.size, j, none⟩ = some (.string (S x)) := by
  rw [(new_at W cs T j).1, ← Array.getElem?_toList, h, List.getElem?_map, hj]
  rfl

theorem itoa_len (n : Int) (h0 : -9223372036854775808 ≤ n) (h1 : n ≤ 9223372036854775807) : (Lib.itoa n).length ≤ 30 := by
  unfold Lib.itoa
  split
  · have := decDigits_len (N := n.natAbs) (k := 19) (Nat.lt_of_lt_of_le (show n.natAbs < 18446744073709551616 by omega) (by decide))
    rw [List.length_cons]; omega
  · have := decDigits_len (N := n.toNat) (k := 19) (Nat.lt_of_lt_of_le (show n.toNat < 18446744073709551616 by omega) (by decide))
    omega

/-- One digit, a point, the others, the exponent. -/
def sciL (d : List UInt8) (x : Int) : List UInt8 := [d.take 1, [46], d.drop 1, [69], Lib.itoa x].flatten

set_option maxRecDepth 100000 in
set_option maxHeartbeats 800000 in
theorem sci_part (w : World) (d : List UInt8) (e n : Int) (z : Bool) (hd0 : 1 ≤ d.length) (hd : d.length ≤ 1000) (he0 : -100000 ≤ e) (he1 : e ≤ 100000) (ht : Tab w) :
    Calls Tryz.prog 62 #[.string (S d), .int .i64 e, .int .i64 n, .bool z] w fun y w' => y = .returned (.string (S (sciL d (if z then 0 else e - 1)))) ∧ Below w.heap.size w w' := by
  have hs1 : ∀ w, (Instr.slice 9 (.string (S d)) none (some (.int .i64 1)) none).run Tryz.prog w = .ok (.string (S (d.take 1))) w := slice_to d 1 hd0
  have hs2 : ∀ w, (Instr.slice 9 (.string (S d)) (some (.int .i64 1)) none none).run Tryz.prog w = .ok (.string (S (d.drop 1))) w := slice_from d 1 hd0
  have HT := Aside0.mk ht
  obtain ⟨x, hx⟩ : ∃ x : Int, x = if z then 0 else e - 1 := ⟨_, rfl⟩
  have hxb : -200000 ≤ x ∧ x ≤ 200000 := by rw [hx]; split <;> omega
  have HIL := Aside0.mk (itoa_len x (by omega) (by omega))
  have HXB := Aside0.mk hxb
  have HDL := Aside0.mk hd
  rw [← hx]
  obtain ⟨s0, hs0⟩ : ∃ s0, s0 = S d := ⟨_, rfl⟩
  obtain ⟨s3, hs3⟩ : ∃ s3, s3 = S (d.take 1) := ⟨_, rfl⟩
  obtain ⟨s4, hs4⟩ : ∃ s4, s4 = S (d.drop 1) := ⟨_, rfl⟩
  rw [← hs0, ← hs3] at hs1
  rw [← hs0, ← hs4] at hs2
  rw [← hs0]
  have HS3 := Aside0.mk hs3
  have HS4 := Aside0.mk hs4
  clear hs0 hs3 hs4 hxb hd0 hd ht
  cases z with
  | true =>
    obtain rfl : x = 0 := by rw [hx]; rfl
    clear hx
    go_enter Tryz.func62, Tryz.ntmps62
    go_wp2_with fail
    go_region_held3 (fun _ => True) (trivial)
      (first
        | (go_at_call 27; refine (itoa_any _ 0 ?_ ?_ ?_).mono ?_; (have := HXB.out; omega); (have := HXB.out; omega); (first | exact HT.out | exact HT.out.below (Below.drew (Below.refl _ _))); rintro y w1 ⟨rfl, hb1⟩)
        | (go_at_call 57; refine (join_any _ _ _ [d.take 1, [46], d.drop 1, [69], Lib.itoa 0] (by simp) (Nat.le_refl _) (by have := HIL.out; have := HDL.out; simp; omega) (by simp) (row_cells w1 _ _ 9 (by rw [HS3.out, HS4.out]; rfl))).mono ?_; rintro y w2 ⟨rfl, hb2⟩))
    go_wp2_with fail
    go_ret
    exact ⟨by simp [sciL], ((Below.drew (Below.refl w.heap.size w)).trans hb1).trans (((below_alloc (Below.refl _ _) _).trans (hb2.mono (by simp))).mono (by have := hb1.size; simpa using this))⟩
  | false =>
    obtain rfl : x = e - 1 := by rw [hx]; rfl
    clear hx
    go_enter Tryz.func62, Tryz.ntmps62
    go_wp2_with fail
    go_region_held3 (fun _ => True) (trivial)
      (first
        | (go_at_call 27; refine (itoa_any _ (e - 1) ?_ ?_ ?_).mono ?_; (have := HXB.out; omega); (have := HXB.out; omega); (first | exact HT.out | exact HT.out.below (Below.drew (Below.refl _ _))); rintro y w1 ⟨rfl, hb1⟩)
        | (go_at_call 57; refine (join_any _ _ _ [d.take 1, [46], d.drop 1, [69], Lib.itoa (e - 1)] (by simp) (Nat.le_refl _) (by have := HIL.out; have := HDL.out; simp; omega) (by simp) (row_cells w1 _ _ 9 (by rw [HS3.out, HS4.out]; rfl))).mono ?_; rintro y w2 ⟨rfl, hb2⟩))
    go_wp2_with fail
    go_ret
    exact ⟨by simp [sciL], ((Below.drew (Below.refl w.heap.size w)).trans hb1).trans (((below_alloc (Below.refl _ _) _).trans (hb2.mono (by simp))).mono (by have := hb1.size; simpa using this))⟩

end Go.Proofs.YthknbknmlnnhcaaGreatDoor
