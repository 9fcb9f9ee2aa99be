/- Walks: decimal.Represent. -/
import Derived.Test.YthknbknmlnnhcaaGreatDoorXf
namespace Go.Proofs.YthknbknmlnnhcaaGreatDoor
open Go.RowKit Go.Proofs.YthknbknmlnnhcaaGreatDoorW.PrintWords Bob
set_option linter.unusedVariables false
set_option linter.unusedSimpArgs false

/-- Three cells that may be written. -/
def C3 (W : World) (g : Nat) : Prop := g < W.heap.size ∧ (∃ v0, W.cell? ⟨g, 0, none⟩ = some v0) ∧ (∃ v1, W.cell? ⟨g, 1, none⟩ = some v1) ∧ (∃ v2, W.cell? ⟨g, 2, none⟩ = some v2) ∧ W.frozen? ⟨g, 0, none⟩ = false ∧ W.frozen? ⟨g, 1, none⟩ = false ∧ W.frozen? ⟨g, 2, none⟩ = false
theorem C3.below {W W' : World} {g : Nat} (h : C3 W g) (hb : Below W.heap.size W W') : C3 W' g := by
  obtain ⟨h0, ⟨v0, h1⟩, ⟨v1, h2⟩, ⟨v2, h3⟩, h4, h5, h6⟩ := h
  exact ⟨Nat.lt_of_lt_of_le h0 hb.size, ⟨v0, (hb.cell (p := ⟨g, 0, none⟩) h0).trans h1⟩, ⟨v1, (hb.cell (p := ⟨g, 1, none⟩) h0).trans h2⟩, ⟨v2, (hb.cell (p := ⟨g, 2, none⟩) h0).trans h3⟩, (hb.frozen (p := ⟨g, 0, none⟩) h0).trans h4, (hb.frozen (p := ⟨g, 1, none⟩) h0).trans h5, (hb.frozen (p := ⟨g, 2, none⟩) h0).trans h6⟩
theorem C3.new (w : World) (v0 v1 v2 : Value) (T : TypeId) : C3 (w.alloc (.cells #[v0, v1, v2] T)) w.heap.size :=
  ⟨by simp, ⟨v0, (new_at w _ T 0).1⟩, ⟨v1, (new_at w _ T 1).1⟩, ⟨v2, (new_at w _ T 2).1⟩, (new_at w _ T 0).2, (new_at w _ T 1).2, (new_at w _ T 2).2⟩

instance (P Q : Nat) (k : Int) : Decidable (Ge P Q k) := by unfold Ge; exact inferInstance
theorem reach_ge (w : World) (v : Value) (a : Nat) (k : Int) (h : Rd w v (words (fM a))) (hf : fFin a) (hk0 : -500 ≤ k) (hk1 : k ≤ 500) :
    Calls Tryz.prog 47 #[v, .int .i64 (fE a), .int .i64 k] w fun x w' => x = .returned (.bool (decide (Ge (fP a) (fQ a) k))) ∧ Below w.heap.size w w' := by
  have h1 := fM_lt a
  have h2 := fE_le a hf
  have h3 := fE_ge a
  refine (reaches_any w v (fM a) (fE a) k h (words_len_bl (Nat.le_trans (bl_le_of (k := 53) (by omega)) (by decide))) (by omega) (by omega) hk0 hk1).mono ?_
  rintro e w' ⟨rfl, hb⟩
  refine ⟨ret_bool ?_, hb⟩
  unfold Ge fP fQ
  refine decide_eq_decide.2 ?_
  rw [Nat.mul_comm (10 ^ k.toNat), Nat.mul_right_comm]
theorem tdiv_in (z : Int) (h0 : -33000000 ≤ z) (h1 : z ≤ 33000000) : -330 ≤ z.tdiv 100000 ∧ z.tdiv 100000 ≤ 330 := by
  by_cases h : 0 ≤ z
  · rw [Int.tdiv_eq_ediv_of_nonneg h]; omega
  · obtain ⟨y, rfl⟩ : ∃ y, z = -y := ⟨-z, by omega⟩
    rw [Int.neg_tdiv, Int.tdiv_eq_ediv_of_nonneg (by omega)]; omega
theorem fM_words (a : Nat) : (words (fM a)).length ≤ 2 := words_len_bl (Nat.le_trans (bl_le_of (k := 53) (by have := fM_lt a; omega)) (by decide))

set_option maxRecDepth 100000 in
set_option maxHeartbeats 2000000 in
theorem represent_any (w : World) (a : Nat) (n : Int) (h : a < 18446744073709551616) : Calls Tryz.prog 16 #[.int .u64 (a : Int), .int .i64 n] w (RetRep a n w) := by
  have H := Aside0.mk h
  clear h
  go_enter Tryz.func16, Tryz.ntmps16
  go_wp2_with fail
  refine (Split_any _ a H.out).mono ?_
  rintro e w1 ⟨hs1, hs2⟩
  by_cases hf : fFin a
  · obtain ⟨v2, rfl, hr, hb⟩ := hs1 hf
    have HF := Aside0.mk hf
    have HR := Aside0.mk hr
    have HB := Aside0.mk (below_alloc (Below.refl _ _) _ |>.trans (hb.mono (by simp)) : Below w.heap.size w w1)
    have HC3 := Aside0.mk ((C3.new w _ _ _ 33).below hb)
    clear hs1 hs2 hr hb hf
    by_cases hn1 : n < 1
    · have HS := Aside0.mk (show repT a n = [] ∧ repX a n = 0 ∧ repN a n = false ∧ repE a n = 1 by simp [repT, repX, repN, repE, hn1])
      obtain ⟨_, ⟨_, k0⟩, ⟨_, k1⟩, ⟨_, k2⟩, f0, f1, f2⟩ := HC3.out
      go_wp2_with fail
      refine bodyPost_ret (v := .tuple #[.agg #[.string { data := #[] }, .int .i64 0, .bool false], .int .i64 1]) (by simp [results, Tryz.results16, go_sem, k0, k1, k2]) rfl ⟨by obtain ⟨e1, e2, e3, e4⟩ := HS.out; rw [e1, e2, e3, e4]; rfl, ((HB.out.setCell (p := ⟨w.heap.size, 0, none⟩) (Nat.le_refl _) _).setCell (p := ⟨w.heap.size, 1, none⟩) (Nat.le_refl _) _).setCell (p := ⟨w.heap.size, 2, none⟩) (Nat.le_refl _) _⟩
    · by_cases hn2 : 40 < n
      · have HS := Aside0.mk (show repT a n = [] ∧ repX a n = 0 ∧ repN a n = false ∧ repE a n = 1 by simp [repT, repX, repN, repE, hn2])
        obtain ⟨_, ⟨_, k0⟩, ⟨_, k1⟩, ⟨_, k2⟩, f0, f1, f2⟩ := HC3.out
        go_wp2_with fail
        refine bodyPost_ret (v := .tuple #[.agg #[.string { data := #[] }, .int .i64 0, .bool false], .int .i64 1]) (by simp [results, Tryz.results16, go_sem, k0, k1, k2]) rfl ⟨by obtain ⟨e1, e2, e3, e4⟩ := HS.out; rw [e1, e2, e3, e4]; rfl, ((HB.out.setCell (p := ⟨w.heap.size, 0, none⟩) (Nat.le_refl _) _).setCell (p := ⟨w.heap.size, 1, none⟩) (Nat.le_refl _) _).setCell (p := ⟨w.heap.size, 2, none⟩) (Nat.le_refl _) _⟩
      · have hn3 : ¬ (n < 1 ∨ 40 < n ∨ ¬ fFin a) := by rintro (h | h | h); exact hn1 h; exact hn2 h; exact h HF.out
        obtain ⟨m, rfl⟩ : ∃ m : Nat, n = (m : Int) := ⟨n.toNat, by omega⟩
        have hm1 : 1 ≤ m := by omega
        have hm2 : m ≤ 40 := by omega
        clear hn1 hn2
        obtain ⟨l2, A2, c2, rfl, HL, hc2, hl2, HC⟩ := HR.out.elim
        have HRep := Aside0.mk hn3
        clear hn3
        cases l2 with
        | zero =>
          have hM : fM a = 0 := words_len_zero.1 HL.out.symm
          have HS := Aside0.mk (show repT a m = List.replicate m 48 ∧ repX a m = 0 ∧ repN a m = fNeg a ∧ repE a m = 0 by simp only [repT, repX, repN, repE, if_neg HRep.out, hM, if_true, Int.toNat_natCast, and_self])
          have hst : ({ data := #[48] } : ByteArray).size = 1 := rfl
          have hrp : ({ data := (Lib.repeatL ({ data := #[48] } : ByteArray).data.toList m).toArray } : ByteArray) = S (List.replicate m 48) := by
            rw [show ({ data := #[48] } : ByteArray).data.toList = [48] from rfl, repeat_one]; rfl
          go_wp2_with fail
          refine (Tryz.strings_Repeat { data := #[48] } m w1 (by omega) (by show 1 * m ≤ _; omega)).mono ?_
          rw [hrp]
          rintro e w9 ⟨rfl, hb9⟩
          have HB9 := Aside0.mk (HB.out.trans (hb9.mono HB.out.size))
          obtain ⟨_, ⟨_, k0⟩, ⟨_, k1⟩, ⟨_, k2⟩, f0, f1, f2⟩ := HC3.out.below hb9
          generalize hT : S (List.replicate m 48) = T
          have HT := Aside0.mk hT
          clear hb9 hT hrp
          go_wp2_with fail
          refine bodyPost_ret (v := .tuple #[.agg #[.string T, .int .i64 0, .bool (fNeg a)], .int .i64 0]) (by simp [results, Tryz.results16, go_sem, k0, k1, k2]) rfl ⟨by obtain ⟨e1, e2, e3, e4⟩ := HS.out; rw [e1, e2, e3, e4, HT.out], ((HB9.out.setCell (p := ⟨w.heap.size, 0, none⟩) (Nat.le_refl _) _).setCell (p := ⟨w.heap.size, 1, none⟩) (Nat.le_refl _) _).setCell (p := ⟨w.heap.size, 2, none⟩) (Nat.le_refl _) _⟩
        | succ l2 =>
          have hM : fM a ≠ 0 := fun e => by have := HL.out; rw [e, words_zero] at this; cases this
          have HM := Aside0.mk hM
          have hb1 := bl_le_of (n := fM a) (k := 53) (by have := fM_lt a; omega)
          have hE1 := fE_ge a
          have hE2 := fE_le a HF.out
          clear hM
          go_wp2_with fail
          refine (bits_any w1 _ (fM a) HR.out (by have := fM_words a; omega)).mono ?_
          obtain ⟨bb, hbb⟩ : ∃ bb, bb = bl (fM a) := ⟨_, rfl⟩
          rw [← hbb] at hb1 ⊢
          clear hbb
          rintro e w2 ⟨rfl, hb2⟩
          have HB2 := Aside0.mk (HB.out.trans (hb2.mono HB.out.size))
          have HR2 := Aside0.mk (HR.out.below hb2)
          have HC2 := Aside0.mk (HC3.out.below hb2)
          have HX0 := Aside0.mk (show -400 ≤ wrap64 ((((bb : Int) + fE a) * 30103).tdiv 100000 + 1) ∧ wrap64 ((((bb : Int) + fE a) * 30103).tdiv 100000 + 1) ≤ 400 by
            have := tdiv_in (((bb : Int) + fE a) * 30103) (by omega) (by omega)
            unfold wrap64; omega)
          clear HC3 HR HB hb2 HC
          go_wp2_with fail
          generalize wrap64 ((((bb : Int) + fE a) * 30103).tdiv 100000 + 1) = x0 at HX0 ⊢
          clear hb1
          go_loopg [10] (400 - x0).toNat (fun k v10 w' => ∃ x : Int, v10 = .int .i64 x ∧ x + (k : Int) = 400 ∧ -400 ≤ x ∧ Aside0 (Below w.heap.size w w') ∧ Aside0 (Rd w' (.slice A2 (l2 + 1) c2) (words (fM a))) ∧ Aside0 (C3 w' w.heap.size))
          case atStart => exact ⟨x0, rfl, by have := HX0.out; omega, HX0.out.1, HB2, HR2, HC2⟩
          case round =>
            clear HB2 HR2 HC2 HX0
            obtain ⟨x, rfl, hxk, hx0, HB, HR, HC⟩ := hrel
            go_wp2_with fail
            refine (reach_ge wr _ a x HR.out HF.out (by omega) (by omega)).mono ?_
            rintro e w3 ⟨rfl, hb3⟩
            have HB3 := Aside0.mk (HB.out.trans (hb3.mono HB.out.size))
            have HR3 := Aside0.mk (HR.out.below hb3)
            have HC3 := Aside0.mk (HC.out.below hb3)
            clear HB HR HC hb3
            by_cases hg : Ge (fP a) (fQ a) x
            · have HG := Aside0.mk hg
              have hx4 : x < 400 := by
                rcases (by omega : x < 400 ∨ 400 ≤ x) with h | h
                · exact h
                · exact absurd (ge_anti h hg) (not_ge_400 a HF.out)
              rw [decide_eq_true hg]
              clear hg
              go_wp2_with fail
              go_roundg (gk - 1)
              case measure => omega
              case rel => exact ⟨x + 1, by go_num, by omega, by omega, HB3, HR3, HC3⟩
            · have HG := Aside0.mk hg
              have hx4 : -399 ≤ x := by
                rcases (by omega : x < -399 ∨ -399 ≤ x) with h | h
                · exact absurd (ge_anti (by omega) (ge_m400 a HM.out)) hg
                · exact h
              rw [decide_eq_false hg]
              clear hg
              have hx40 : x ≤ 400 := by omega
              clear hxk
              go_wp2_with fail
              obtain ⟨g0, rfl⟩ : ∃ g0 : Nat, g0 = gk := ⟨_, rfl⟩
              obtain ⟨x1, rfl⟩ : ∃ x1 : Int, x1 = x := ⟨_, rfl⟩
              obtain ⟨wo, rfl⟩ : ∃ wo : World, wo = wr := ⟨_, rfl⟩
              go_loopg [10] (x1 + 399).toNat (fun k v10 w' => ∃ x : Int, v10 = .int .i64 x ∧ x + 399 = (k : Int) ∧ x ≤ 400 ∧ Aside0 (¬ Ge (fP a) (fQ a) x) ∧ Aside0 (Below w.heap.size w w') ∧ Aside0 (Rd w' (.slice A2 (l2 + 1) c2) (words (fM a))) ∧ Aside0 (C3 w' w.heap.size))
              case atStart => exact ⟨x1, rfl, by omega, hx40, HG, HB3, HR3, HC3⟩
              case round =>
                clear HB3 HR3 HC3 HG hx40 hx4 hx0
                obtain ⟨x, rfl, hxk, hx0, HG, HB, HR, HC⟩ := hrel
                go_wp2_with fail
                refine (reach_ge wr _ a (x - 1) HR.out HF.out (by omega) (by omega)).mono ?_
                rintro e w4 ⟨rfl, hb3⟩
                have HB3 := Aside0.mk (HB.out.trans (hb3.mono HB.out.size))
                have HR3 := Aside0.mk (HR.out.below hb3)
                have HC3 := Aside0.mk (HC.out.below hb3)
                clear HB HR HC hb3
                by_cases hg : Ge (fP a) (fQ a) (x - 1)
                · have HX := Aside0.mk (fX_eq ⟨HG.out, hg⟩)
                  rw [decide_eq_true hg]
                  clear hg
                  have hx9 : -399 ≤ x := by omega
                  clear hxk
                  go_wp2_with fail
                  refine (near_any w4 _ (fM a) (fE a) m x HR3.out (by have := fM_words a; omega) (by omega) (by omega) (by omega) (by omega) (by omega) (by omega)).mono ?_
                  have hR : rne (fM a * 10 ^ ((m : Int) - x).toNat * 2 ^ (fE a).toNat) (10 ^ (x - (m : Int)).toNat * 2 ^ (-fE a).toNat) = fR a m := by
                    unfold fR fP fQ
                    rw [HX.out, Nat.mul_right_comm, Nat.mul_comm (10 ^ (x - (m : Int)).toNat)]
                  rw [hR]
                  clear hR
                  obtain ⟨T, hT⟩ : ∃ T, T = Lib.decDigits (fR a m) := ⟨_, rfl⟩
                  rw [decS_eq, ← hT]
                  have hsz : (S T).size = T.length := S_size T
                  rintro e w5 ⟨rfl, hb5⟩
                  have HB5 := Aside0.mk (HB3.out.trans (hb5.mono HB3.out.size))
                  obtain ⟨_, ⟨_, k0⟩, ⟨_, k1⟩, ⟨_, k2⟩, f0, f1, f2⟩ := HC3.out.below hb5
                  have HTT := Aside0.mk hT
                  clear hT hb5
                  by_cases hl : m < T.length
                  · have HS := Aside0.mk (show repT a m = T.take m ∧ repX a m = x + 1 ∧ repN a m = fNeg a ∧ repE a m = 0 by
                      simp only [repT, repX, repN, repE, if_neg HRep.out, if_neg HM.out, Int.toNat_natCast, ← HTT.out, if_pos hl, HX.out, and_self])
                    have hsl := slice_to T m (by omega)
                    obtain ⟨U, hU⟩ : ∃ U, U = S (T.take m) := ⟨_, rfl⟩
                    have HU := Aside0.mk hU
                    rw [← hU] at hsl
                    have hl2 : (m : Int) < T.length := by omega
                    obtain ⟨tl, htl⟩ : ∃ tl, tl = T.length := ⟨_, rfl⟩
                    rw [← htl] at hsz hl2
                    obtain ⟨V, hV⟩ : ∃ V, V = S T := ⟨_, rfl⟩
                    rw [← hV] at hsz hsl ⊢
                    clear hU htl hl HTT hV
                    go_wp2_with fail
                    refine bodyPost_ret (v := .tuple #[.agg #[.string U, .int .i64 (x + 1), .bool (fNeg a)], .int .i64 0]) (by simp [results, Tryz.results16, go_sem, k0, k1, k2]) rfl ⟨by obtain ⟨e1, e2, e3, e4⟩ := HS.out; rw [e1, e2, e3, e4, HU.out], ((HB5.out.setCell (p := ⟨w.heap.size, 0, none⟩) (Nat.le_refl _) _).setCell (p := ⟨w.heap.size, 1, none⟩) (Nat.le_refl _) _).setCell (p := ⟨w.heap.size, 2, none⟩) (Nat.le_refl _) _⟩
                  · have HS := Aside0.mk (show repT a m = T ∧ repX a m = x ∧ repN a m = fNeg a ∧ repE a m = 0 by
                      simp only [repT, repX, repN, repE, if_neg HRep.out, if_neg HM.out, Int.toNat_natCast, ← HTT.out, if_neg hl, HX.out, and_self])
                    have hl2 : (T.length : Int) ≤ m := by omega
                    obtain ⟨tl, htl⟩ : ∃ tl, tl = T.length := ⟨_, rfl⟩
                    rw [← htl] at hsz hl2
                    obtain ⟨U, hU⟩ : ∃ U, U = S T := ⟨_, rfl⟩
                    have HU := Aside0.mk hU
                    rw [← hU] at hsz ⊢
                    clear hU htl hl HTT
                    go_wp2_with fail
                    refine bodyPost_ret (v := .tuple #[.agg #[.string U, .int .i64 x, .bool (fNeg a)], .int .i64 0]) (by simp [results, Tryz.results16, go_sem, k0, k1, k2]) rfl ⟨by obtain ⟨e1, e2, e3, e4⟩ := HS.out; rw [e1, e2, e3, e4, HU.out], ((HB5.out.setCell (p := ⟨w.heap.size, 0, none⟩) (Nat.le_refl _) _).setCell (p := ⟨w.heap.size, 1, none⟩) (Nat.le_refl _) _).setCell (p := ⟨w.heap.size, 2, none⟩) (Nat.le_refl _) _⟩
                · have HG := Aside0.mk hg
                  have hx4 : -399 ≤ x - 1 := by
                    rcases (by omega : x - 1 < -399 ∨ -399 ≤ x - 1) with h | h
                    · exact absurd (ge_anti (by omega) (ge_m400 a HM.out)) hg
                    · exact h
                  rw [decide_eq_false hg]
                  clear hg
                  go_wp2_with fail
                  go_roundg (gk - 1)
                  case measure => omega
                  case rel => exact ⟨x - 1, by go_num, by omega, by omega, HG, HB3, HR3, HC3⟩
  · obtain ⟨rfl, hb⟩ := hs2 hf
    have HS := Aside0.mk (show repT a n = [] ∧ repX a n = 0 ∧ repN a n = false ∧ repE a n = 1 by simp [repT, repX, repN, repE, hf])
    have HB := Aside0.mk (below_alloc (Below.refl _ _) _ |>.trans (hb.mono (by simp)) : Below w.heap.size w w1)
    obtain ⟨_, ⟨_, k0⟩, ⟨_, k1⟩, ⟨_, k2⟩, f0, f1, f2⟩ := (C3.new w _ _ _ 33).below hb
    clear hs1 hs2 hb hf
    by_cases hn1 : n < 1
    · go_wp2_with fail
      refine bodyPost_ret (v := .tuple #[.agg #[.string { data := #[] }, .int .i64 0, .bool false], .int .i64 1]) (by simp [results, Tryz.results16, go_sem, k0, k1, k2]) rfl ⟨by obtain ⟨e1, e2, e3, e4⟩ := HS.out; rw [e1, e2, e3, e4]; rfl, ((HB.out.setCell (p := ⟨w.heap.size, 0, none⟩) (Nat.le_refl _) _).setCell (p := ⟨w.heap.size, 1, none⟩) (Nat.le_refl _) _).setCell (p := ⟨w.heap.size, 2, none⟩) (Nat.le_refl _) _⟩
    · by_cases hn2 : 40 < n
      · go_wp2_with fail
        refine bodyPost_ret (v := .tuple #[.agg #[.string { data := #[] }, .int .i64 0, .bool false], .int .i64 1]) (by simp [results, Tryz.results16, go_sem, k0, k1, k2]) rfl ⟨by obtain ⟨e1, e2, e3, e4⟩ := HS.out; rw [e1, e2, e3, e4]; rfl, ((HB.out.setCell (p := ⟨w.heap.size, 0, none⟩) (Nat.le_refl _) _).setCell (p := ⟨w.heap.size, 1, none⟩) (Nat.le_refl _) _).setCell (p := ⟨w.heap.size, 2, none⟩) (Nat.le_refl _) _⟩
      · go_wp2_with fail
        refine bodyPost_ret (v := .tuple #[.agg #[.string { data := #[] }, .int .i64 0, .bool false], .int .i64 1]) (by simp [results, Tryz.results16, go_sem, k0, k1, k2]) rfl ⟨by obtain ⟨e1, e2, e3, e4⟩ := HS.out; rw [e1, e2, e3, e4]; rfl, ((HB.out.setCell (p := ⟨w.heap.size, 0, none⟩) (Nat.le_refl _) _).setCell (p := ⟨w.heap.size, 1, none⟩) (Nat.le_refl _) _).setCell (p := ⟨w.heap.size, 2, none⟩) (Nat.le_refl _) _⟩

end Go.Proofs.YthknbknmlnnhcaaGreatDoor
