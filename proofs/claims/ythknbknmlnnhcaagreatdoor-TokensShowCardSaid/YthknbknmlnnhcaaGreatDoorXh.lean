/- Walks: bobbinref4.Represent. -/
import Derived.Test.YthknbknmlnnhcaaGreatDoorXg
namespace Go.Proofs.YthknbknmlnnhcaaGreatDoor
open Go.RowKit Go.Proofs.YthknbknmlnnhcaaGreatDoorW.PrintWords Bob
set_option linter.unusedVariables false
set_option linter.unusedSimpArgs false

theorem fP_words (a : Nat) (h : fFin a) : (words (fP a)).length ≤ 40 := by
  have h1 := words_len_mul (fM a) (2 ^ (fE a).toNat)
  have h2 := fM_words a
  have h3 := words_two (fE a).toNat
  have h4 := fE_le a h
  unfold fP
  omega
theorem fQ_words (a : Nat) : (words (fQ a)).length ≤ 40 := by
  have h3 := words_two (-fE a).toNat
  have h4 := fE_ge a
  unfold fQ
  omega
/-- A shift up, by 0 too. -/
theorem rsh_any (w : World) (v : Value) (N m : Nat) (h : Rd w v (words N)) (hk : (words N).length ≤ 1000) (hm1 : m ≤ 30000) :
    Calls Tryz.prog 51 #[v, .int .i64 (m : Int)] w (RetPair (N * 2 ^ m) w) := by
  rcases Nat.eq_zero_or_pos m with rfl | h0
  · have := rshr_any w v N 0 h (by omega) (by omega)
    rw [Nat.pow_zero, Nat.mul_one]
    rw [Nat.pow_zero, Nat.div_one] at this
    exact this
  · exact rshl_any w v N m h hk h0 hm1

theorem tdiv_in2 (z : Int) (h0 : -39000000 ≤ z) (h1 : z ≤ 39000000) : -390 ≤ z.tdiv 100000 ∧ z.tdiv 100000 ≤ 390 := by
  by_cases h : 0 ≤ z
  · rw [Int.tdiv_eq_ediv_of_nonneg h]; omega
  · obtain ⟨y, rfl⟩ : ∃ y, z = -y := ⟨-z, by omega⟩
    rw [Int.neg_tdiv, Int.tdiv_eq_ediv_of_nonneg (by omega)]; omega

set_option maxRecDepth 100000 in
set_option maxHeartbeats 2000000 in
theorem rrepresent_any (w : World) (a : Nat) (n : Int) (h : a < 18446744073709551616) : Calls Tryz.prog 17 #[.int .u64 (a : Int), .int .i64 n] w (RetRep a n w) := by
  have H := Aside0.mk h
  clear h
  go_enter Tryz.func17, Tryz.ntmps17
  go_wp2_with fail
  refine (rSplit_any _ a H.out).mono ?_
  rintro e w1 ⟨hs1, hs2⟩
  by_cases hf : fFin a
  · obtain ⟨v2, rfl, hr, hb⟩ := hs1 hf
    have HF := Aside0.mk hf
    have HR := Aside0.mk hr
    have HB := Aside0.mk (below_alloc (Below.refl _ _) _ |>.trans (hb.mono (by simp)) : Below w.heap.size w w1)
    have HC3 := Aside0.mk ((C3.new w _ _ _ 33).below hb)
    clear hs1 hs2 hr hb hf
    by_cases hn1 : n < 1
    · have HS := Aside0.mk (show repT a n = [] ∧ repX a n = 0 ∧ repN a n = false ∧ repE a n = 1 by simp [repT, repX, repN, repE, hn1])
      obtain ⟨_, ⟨_, k0⟩, ⟨_, k1⟩, ⟨_, k2⟩, f0, f1, f2⟩ := HC3.out
      go_wp2_with fail
      refine bodyPost_ret (v := .tuple #[.agg #[.string { data := #[] }, .int .i64 0, .bool false], .int .i64 1]) (by simp [results, Tryz.results17, go_sem, k0, k1, k2]) rfl ⟨by obtain ⟨e1, e2, e3, e4⟩ := HS.out; rw [e1, e2, e3, e4]; rfl, ((HB.out.setCell (p := ⟨w.heap.size, 0, none⟩) (Nat.le_refl _) _).setCell (p := ⟨w.heap.size, 1, none⟩) (Nat.le_refl _) _).setCell (p := ⟨w.heap.size, 2, none⟩) (Nat.le_refl _) _⟩
    · by_cases hn2 : 40 < n
      · have HS := Aside0.mk (show repT a n = [] ∧ repX a n = 0 ∧ repN a n = false ∧ repE a n = 1 by simp [repT, repX, repN, repE, hn2])
        obtain ⟨_, ⟨_, k0⟩, ⟨_, k1⟩, ⟨_, k2⟩, f0, f1, f2⟩ := HC3.out
        go_wp2_with fail
        refine bodyPost_ret (v := .tuple #[.agg #[.string { data := #[] }, .int .i64 0, .bool false], .int .i64 1]) (by simp [results, Tryz.results17, go_sem, k0, k1, k2]) rfl ⟨by obtain ⟨e1, e2, e3, e4⟩ := HS.out; rw [e1, e2, e3, e4]; rfl, ((HB.out.setCell (p := ⟨w.heap.size, 0, none⟩) (Nat.le_refl _) _).setCell (p := ⟨w.heap.size, 1, none⟩) (Nat.le_refl _) _).setCell (p := ⟨w.heap.size, 2, none⟩) (Nat.le_refl _) _⟩
      · have hn3 : ¬ (n < 1 ∨ 40 < n ∨ ¬ fFin a) := by rintro (h | h | h); exact hn1 h; exact hn2 h; exact h HF.out
        obtain ⟨m, rfl⟩ : ∃ m : Nat, n = (m : Int) := ⟨n.toNat, by omega⟩
        have hm1 : 1 ≤ m := by omega
        have hm2 : m ≤ 40 := by omega
        clear hn1 hn2
        obtain ⟨l2, A2, c2, rfl, HL, hc2, hl2, HC⟩ := HR.out.elim
        have HRep := Aside0.mk hn3
        clear hn3
        cases l2 with
        | zero =>
          have hM : fM a = 0 := words_len_zero.1 HL.out.symm
          have HS := Aside0.mk (show repT a m = List.replicate m 48 ∧ repX a m = 0 ∧ repN a m = fNeg a ∧ repE a m = 0 by simp only [repT, repX, repN, repE, if_neg HRep.out, hM, if_true, Int.toNat_natCast, and_self])
          have hst : ({ data := #[48] } : ByteArray).size = 1 := rfl
          go_wp2_with fail
          go_loopg [10, 11] m (fun k v10 v11 w' => ∃ (i : Nat) (U : ByteArray), v10 = .string U ∧ v11 = .int .i64 (i : Int) ∧ i + k = m ∧ Aside0 (U = S (List.replicate i 48)) ∧ Aside0 (w' = w1))
          case atStart => exact ⟨0, _, rfl, rfl, by omega, ⟨rfl⟩, ⟨rfl⟩⟩
          case round =>
            obtain ⟨i, U, rfl, rfl, hik, HU, HW⟩ := hrel
            have hw := HW.out
            subst hw
            clear HW
            by_cases him : i < m
            · have hcat : U ++ ({ data := #[48] } : ByteArray) = S (List.replicate (i + 1) 48) := by
                have h1 := S_cat (List.replicate i 48) [48]
                rw [HU.out, List.replicate_succ', ← h1]
                rfl
              have hsz : U.size = i := by rw [HU.out, S_size, List.length_replicate]
              obtain ⟨U2, hU2⟩ : ∃ U2, U2 = S (List.replicate (i + 1) 48) := ⟨_, rfl⟩
              rw [← hU2] at hcat
              have HU2 := Aside0.mk hU2
              clear hU2
              go_wp2_with fail
              go_roundg (gk - 1)
              case measure => omega
              case rel => exact ⟨i + 1, U2, rfl, by go_num, by omega, HU2, ⟨rfl⟩⟩
            · obtain rfl : i = m := by omega
              clear him hik
              obtain ⟨_, ⟨_, k0⟩, ⟨_, k1⟩, ⟨_, k2⟩, f0, f1, f2⟩ := HC3.out
              go_wp2_with fail
              refine bodyPost_ret (v := .tuple #[.agg #[.string U, .int .i64 0, .bool (fNeg a)], .int .i64 0]) (by simp [results, Tryz.results17, go_sem, k0, k1, k2]) rfl ⟨by obtain ⟨e1, e2, e3, e4⟩ := HS.out; rw [e1, e2, e3, e4, HU.out], ((HB.out.setCell (p := ⟨w.heap.size, 0, none⟩) (Nat.le_refl _) _).setCell (p := ⟨w.heap.size, 1, none⟩) (Nat.le_refl _) _).setCell (p := ⟨w.heap.size, 2, none⟩) (Nat.le_refl _) _⟩
        | succ l2 =>
          have hM : fM a ≠ 0 := fun e => by have := HL.out; rw [e, words_zero] at this; cases this
          have HM := Aside0.mk hM
          have hb1 := bl_le_of (n := fM a) (k := 53) (by have := fM_lt a; omega)
          clear hM
          have hE1 := fE_ge a
          have hE2 := fE_le a HF.out
          have HPW := Aside0.mk (fP_words a HF.out)
          have HQW := Aside0.mk (fQ_words a)
          clear HC
          by_cases hE0 : 0 < fE a
          · obtain ⟨E, hE⟩ : ∃ E : Nat, fE a = (E : Int) := ⟨(fE a).toNat, by omega⟩
            have HPE := Aside0.mk (show fP a = fM a * 2 ^ E ∧ fQ a = 1 by unfold fP fQ; rw [hE]; exact ⟨by rw [Int.toNat_natCast], by rw [show (-(E : Int)).toNat = 0 by omega, Nat.pow_zero]⟩)
            rw [hE] at hE1 hE2 hE0 ⊢
            clear hE
            go_wp2_with fail
            refine (rof_any w1 1 (by decide)).mono ?_
            rintro e w2 ⟨v2, rfl, hr2, hb2⟩
            have HD2 := Aside0.mk hr2
            have HN2 := Aside0.mk (HR.out.below hb2)
            have HB2 := Aside0.mk (HB.out.trans (hb2.mono HB.out.size))
            have HC2 := Aside0.mk (HC3.out.below hb2)
            clear hr2 hb2 HC3 HR HB
            go_wp2_with fail
            refine (rshl_any w2 _ (fM a) E HN2.out (by have := fM_words a; omega) (by omega) (by omega)).mono ?_
            rintro e w3 ⟨v3, rfl, hr3, hb3⟩
            rw [← HPE.out.1] at hr3
            have HR3 := Aside0.mk hr3
            have hd3 := HD2.out.below hb3
            rw [← HPE.out.2] at hd3
            have HD3 := Aside0.mk hd3
            have HB3 := Aside0.mk (HB2.out.trans (hb3.mono HB2.out.size))
            have HC3 := Aside0.mk (HC2.out.below hb3)
            clear hr3 hb3 HN2 HD2 HB2 HC2 hd3
            go_wp2_with fail
            refine (rbits_any w3 _ (fP a) HR3.out (by have := HPW.out; omega)).mono ?_
            obtain ⟨b1, hb1⟩ : ∃ b1, b1 = bl (fP a) := ⟨_, rfl⟩
            rw [← hb1]
            have hbb1 : b1 ≤ 1280 := by rw [hb1]; exact bl_words_bound HPW.out
            clear hb1
            rintro e w4 ⟨rfl, hb4⟩
            have HR4 := Aside0.mk (HR3.out.below hb4)
            have HD4 := Aside0.mk (HD3.out.below hb4)
            have HB4 := Aside0.mk (HB3.out.trans (hb4.mono HB3.out.size))
            have HC4 := Aside0.mk (HC3.out.below hb4)
            clear hb4 HR3 HD3 HB3 HC3
            go_wp2_with fail
            refine (rbits_any w4 _ (fQ a) HD4.out (by have := HQW.out; omega)).mono ?_
            obtain ⟨b2, hb2⟩ : ∃ b2, b2 = bl (fQ a) := ⟨_, rfl⟩
            rw [← hb2]
            have hbb2 : b2 ≤ 1280 := by rw [hb2]; exact bl_words_bound HQW.out
            clear hb2
            rintro e w5 ⟨rfl, hb5⟩
            have HR5 := Aside0.mk (HR4.out.below hb5)
            have HD5 := Aside0.mk (HD4.out.below hb5)
            have HB5 := Aside0.mk (HB4.out.trans (hb5.mono HB4.out.size))
            have HC5 := Aside0.mk (HC4.out.below hb5)
            clear hb5 HR4 HD4 HB4 HC4
            have HX0 := Aside0.mk (show -400 ≤ (((b1 : Int) - (b2 : Int)) * 30103).tdiv 100000 ∧ (((b1 : Int) - (b2 : Int)) * 30103).tdiv 100000 ≤ 400 by
              have := tdiv_in2 (((b1 : Int) - (b2 : Int)) * 30103) (by omega) (by omega)
              omega)
            go_wp2_with fail
            generalize (((b1 : Int) - (b2 : Int)) * 30103).tdiv 100000 = x0 at HX0 ⊢
            clear hbb1 hbb2
            go_loopg [14] (400 - x0).toNat (fun k v14 w' => ∃ x : Int, v14 = .int .i64 x ∧ x + (k : Int) = 400 ∧ -400 ≤ x ∧ Aside0 (Below w.heap.size w w') ∧ Aside0 (Rd w' v3 (words (fP a))) ∧ Aside0 (Rd w' v2 (words (fQ a))) ∧ Aside0 (C3 w' w.heap.size))
            case atStart => exact ⟨x0, rfl, by have := HX0.out; omega, HX0.out.1, HB5, HR5, HD5, HC5⟩
            case round =>
              clear HB5 HR5 HC5 HD5 HX0
              obtain ⟨x, rfl, hxk, hx0, HB, HR, HD, HC⟩ := hrel
              go_wp2_with fail
              refine (ge_any wr _ _ (fP a) (fQ a) x HR.out HD.out (by have := HPW.out; omega) (by have := HQW.out; omega) (by omega) (by omega)).mono ?_
              rintro e w6 ⟨rfl, hb3⟩
              have HB3 := Aside0.mk (HB.out.trans (hb3.mono HB.out.size))
              have HR3 := Aside0.mk (HR.out.below hb3)
              have HD3 := Aside0.mk (HD.out.below hb3)
              have HC3 := Aside0.mk (HC.out.below hb3)
              clear HB HR HC HD hb3
              by_cases hg : Ge (fP a) (fQ a) x
              · have HG := Aside0.mk hg
                have hx4 : x < 400 := by
                  rcases (by omega : x < 400 ∨ 400 ≤ x) with h | h
                  · exact h
                  · exact absurd (ge_anti h hg) (not_ge_400 a HF.out)
                rw [show decide (fQ a * 10 ^ x.toNat ≤ fP a * 10 ^ (-x).toNat) = true from decide_eq_true hg]
                clear hg
                go_wp2_with fail
                go_roundg (gk - 1)
                case measure => omega
                case rel => exact ⟨x + 1, by go_num, by omega, by omega, HB3, HR3, HD3, HC3⟩
              · have HG := Aside0.mk hg
                have hx4 : -399 ≤ x := by
                  rcases (by omega : x < -399 ∨ -399 ≤ x) with h | h
                  · exact absurd (ge_anti (by omega) (ge_m400 a HM.out)) hg
                  · exact h
                rw [show decide (fQ a * 10 ^ x.toNat ≤ fP a * 10 ^ (-x).toNat) = false from decide_eq_false hg]
                clear hg
                have hx40 : x ≤ 400 := by omega
                clear hxk
                go_wp2_with fail
                obtain ⟨g0, rfl⟩ : ∃ g0 : Nat, g0 = gk := ⟨_, rfl⟩
                obtain ⟨x1, rfl⟩ : ∃ x1 : Int, x1 = x := ⟨_, rfl⟩
                obtain ⟨wo, rfl⟩ : ∃ wo : World, wo = wr := ⟨_, rfl⟩
                go_loopg [14] (x1 + 399).toNat (fun k v14 w' => ∃ x : Int, v14 = .int .i64 x ∧ x + 399 = (k : Int) ∧ x ≤ 400 ∧ Aside0 (¬ Ge (fP a) (fQ a) x) ∧ Aside0 (Below w.heap.size w w') ∧ Aside0 (Rd w' v3 (words (fP a))) ∧ Aside0 (Rd w' v2 (words (fQ a))) ∧ Aside0 (C3 w' w.heap.size))
                case atStart => exact ⟨x1, rfl, by omega, hx40, HG, HB3, HR3, HD3, HC3⟩
                case round =>
                  clear HB3 HR3 HC3 HD3 HG hx40 hx4 hx0
                  obtain ⟨x, rfl, hxk, hx0, HG, HB, HR, HD, HC⟩ := hrel
                  go_wp2_with fail
                  refine (ge_any wr _ _ (fP a) (fQ a) (x - 1) HR.out HD.out (by have := HPW.out; omega) (by have := HQW.out; omega) (by omega) (by omega)).mono ?_
                  rintro e w7 ⟨rfl, hb3⟩
                  have HB3 := Aside0.mk (HB.out.trans (hb3.mono HB.out.size))
                  have HR3 := Aside0.mk (HR.out.below hb3)
                  have HD3 := Aside0.mk (HD.out.below hb3)
                  have HC3 := Aside0.mk (HC.out.below hb3)
                  clear HB HR HC HD hb3
                  by_cases hg : Ge (fP a) (fQ a) (x - 1)
                  · have HX := Aside0.mk (fX_eq ⟨HG.out, hg⟩)
                    rw [show decide (fQ a * 10 ^ (x - 1).toNat ≤ fP a * 10 ^ (-(x - 1)).toNat) = true from decide_eq_true hg]
                    clear hg
                    have hx9 : -399 ≤ x := by omega
                    clear hxk
                    go_wp2_with fail
                    refine (scaled_any w7 _ _ (fP a) (fQ a) (m - x) HR3.out HD3.out (by have := HPW.out; omega) (by have := HQW.out; omega) (fQ_pos a) (by omega) (by omega)).mono ?_
                    have hR : rne (fP a * 10 ^ ((m : Int) - x).toNat) (fQ a * 10 ^ (-((m : Int) - x)).toNat) = fR a m := by
                      unfold fR
                      rw [HX.out, show -((m : Int) - x) = x - m by omega]
                    rw [hR]
                    clear hR
                    obtain ⟨T, hT⟩ : ∃ T, T = Lib.decDigits (fR a m) := ⟨_, rfl⟩
                    rw [decS_eq, ← hT]
                    have hsz : (S T).size = T.length := S_size T
                    rintro e w8 ⟨rfl, hb5⟩
                    have HB5 := Aside0.mk (HB3.out.trans (hb5.mono HB3.out.size))
                    obtain ⟨_, ⟨_, k0⟩, ⟨_, k1⟩, ⟨_, k2⟩, f0, f1, f2⟩ := HC3.out.below hb5
                    have HTT := Aside0.mk hT
                    clear hT hb5
                    by_cases hl : m < T.length
                    · have HS := Aside0.mk (show repT a m = T.take m ∧ repX a m = x + 1 ∧ repN a m = fNeg a ∧ repE a m = 0 by
                        simp only [repT, repX, repN, repE, if_neg HRep.out, if_neg HM.out, Int.toNat_natCast, ← HTT.out, if_pos hl, HX.out, and_self])
                      have hsl := slice_to T m (by omega)
                      obtain ⟨U, hU⟩ : ∃ U, U = S (T.take m) := ⟨_, rfl⟩
                      have HU := Aside0.mk hU
                      rw [← hU] at hsl
                      have hl2 : (m : Int) < T.length := by omega
                      obtain ⟨tl, htl⟩ : ∃ tl, tl = T.length := ⟨_, rfl⟩
                      rw [← htl] at hsz hl2
                      obtain ⟨V, hV⟩ : ∃ V, V = S T := ⟨_, rfl⟩
                      rw [← hV] at hsz hsl ⊢
                      clear hU htl hl HTT hV
                      go_wp2_with fail
                      refine bodyPost_ret (v := .tuple #[.agg #[.string U, .int .i64 (x + 1), .bool (fNeg a)], .int .i64 0]) (by simp [results, Tryz.results17, go_sem, k0, k1, k2]) rfl ⟨by obtain ⟨e1, e2, e3, e4⟩ := HS.out; rw [e1, e2, e3, e4, HU.out], ((HB5.out.setCell (p := ⟨w.heap.size, 0, none⟩) (Nat.le_refl _) _).setCell (p := ⟨w.heap.size, 1, none⟩) (Nat.le_refl _) _).setCell (p := ⟨w.heap.size, 2, none⟩) (Nat.le_refl _) _⟩
                    · have HS := Aside0.mk (show repT a m = T ∧ repX a m = x ∧ repN a m = fNeg a ∧ repE a m = 0 by
                        simp only [repT, repX, repN, repE, if_neg HRep.out, if_neg HM.out, Int.toNat_natCast, ← HTT.out, if_neg hl, HX.out, and_self])
                      have hl2 : (T.length : Int) ≤ m := by omega
                      obtain ⟨tl, htl⟩ : ∃ tl, tl = T.length := ⟨_, rfl⟩
                      rw [← htl] at hsz hl2
                      obtain ⟨U, hU⟩ : ∃ U, U = S T := ⟨_, rfl⟩
                      have HU := Aside0.mk hU
                      rw [← hU] at hsz ⊢
                      clear hU htl hl HTT
                      go_wp2_with fail
                      refine bodyPost_ret (v := .tuple #[.agg #[.string U, .int .i64 x, .bool (fNeg a)], .int .i64 0]) (by simp [results, Tryz.results17, go_sem, k0, k1, k2]) rfl ⟨by obtain ⟨e1, e2, e3, e4⟩ := HS.out; rw [e1, e2, e3, e4, HU.out], ((HB5.out.setCell (p := ⟨w.heap.size, 0, none⟩) (Nat.le_refl _) _).setCell (p := ⟨w.heap.size, 1, none⟩) (Nat.le_refl _) _).setCell (p := ⟨w.heap.size, 2, none⟩) (Nat.le_refl _) _⟩
                  · have HG := Aside0.mk hg
                    have hx4 : -399 ≤ x - 1 := by
                      rcases (by omega : x - 1 < -399 ∨ -399 ≤ x - 1) with h | h
                      · exact absurd (ge_anti (by omega) (ge_m400 a HM.out)) hg
                      · exact h
                    rw [show decide (fQ a * 10 ^ (x - 1).toNat ≤ fP a * 10 ^ (-(x - 1)).toNat) = false from decide_eq_false hg]
                    clear hg
                    go_wp2_with fail
                    go_roundg (gk - 1)
                    case measure => omega
                    case rel => exact ⟨x - 1, by go_num, by omega, by omega, HG, HB3, HR3, HD3, HC3⟩
          · obtain ⟨E, hE⟩ : ∃ E : Nat, fE a = -(E : Int) := ⟨(-fE a).toNat, by omega⟩
            have HPE := Aside0.mk (show fP a = fM a ∧ fQ a = 1 * 2 ^ E by unfold fP fQ; rw [hE]; exact ⟨by rw [show (-(E : Int)).toNat = 0 by omega, Nat.pow_zero, Nat.mul_one], by rw [show (- -(E : Int)).toNat = E by omega, Nat.one_mul]⟩)
            rw [hE] at hE1 hE2 hE0 ⊢
            clear hE
            have hwr : IntKind.i64.wrap (-(-(E : Int))) = (E : Int) := by rw [IntKind.wrap_i64]; omega
            have hng : - -(E : Int) = (E : Int) := by omega
            go_wp2_with fail
            refine (rof_any w1 1 (by decide)).mono ?_
            rintro e w2 ⟨v2, rfl, hr2, hb2⟩
            have HD2 := Aside0.mk hr2
            have HN2 := Aside0.mk (HR.out.below hb2)
            have HB2 := Aside0.mk (HB.out.trans (hb2.mono HB.out.size))
            have HC2 := Aside0.mk (HC3.out.below hb2)
            clear hr2 hb2 HC3 HR HB
            go_wp2_with fail
            refine (rsh_any w2 _ 1 E HD2.out (by rw [words_one (by decide) (by decide)]; decide) (by omega)).mono ?_
            rintro e w3 ⟨v3, rfl, hr3, hb3⟩
            rw [← HPE.out.2] at hr3
            have HD3 := Aside0.mk hr3
            have hd3 := HN2.out.below hb3
            rw [← HPE.out.1] at hd3
            have HR3 := Aside0.mk hd3
            have HB3 := Aside0.mk (HB2.out.trans (hb3.mono HB2.out.size))
            have HC3 := Aside0.mk (HC2.out.below hb3)
            clear hr3 hb3 HN2 HD2 HB2 HC2 hd3
            go_wp2_with fail
            refine (rbits_any w3 _ (fP a) HR3.out (by have := HPW.out; omega)).mono ?_
            obtain ⟨b1, hb1⟩ : ∃ b1, b1 = bl (fP a) := ⟨_, rfl⟩
            rw [← hb1]
            have hbb1 : b1 ≤ 1280 := by rw [hb1]; exact bl_words_bound HPW.out
            clear hb1
            rintro e w4 ⟨rfl, hb4⟩
            have HR4 := Aside0.mk (HR3.out.below hb4)
            have HD4 := Aside0.mk (HD3.out.below hb4)
            have HB4 := Aside0.mk (HB3.out.trans (hb4.mono HB3.out.size))
            have HC4 := Aside0.mk (HC3.out.below hb4)
            clear hb4 HR3 HD3 HB3 HC3
            go_wp2_with fail
            refine (rbits_any w4 _ (fQ a) HD4.out (by have := HQW.out; omega)).mono ?_
            obtain ⟨b2, hb2⟩ : ∃ b2, b2 = bl (fQ a) := ⟨_, rfl⟩
            rw [← hb2]
            have hbb2 : b2 ≤ 1280 := by rw [hb2]; exact bl_words_bound HQW.out
            clear hb2
            rintro e w5 ⟨rfl, hb5⟩
            have HR5 := Aside0.mk (HR4.out.below hb5)
            have HD5 := Aside0.mk (HD4.out.below hb5)
            have HB5 := Aside0.mk (HB4.out.trans (hb5.mono HB4.out.size))
            have HC5 := Aside0.mk (HC4.out.below hb5)
            clear hb5 HR4 HD4 HB4 HC4
            have HX0 := Aside0.mk (show -400 ≤ (((b1 : Int) - (b2 : Int)) * 30103).tdiv 100000 ∧ (((b1 : Int) - (b2 : Int)) * 30103).tdiv 100000 ≤ 400 by
              have := tdiv_in2 (((b1 : Int) - (b2 : Int)) * 30103) (by omega) (by omega)
              omega)
            go_wp2_with fail
            generalize (((b1 : Int) - (b2 : Int)) * 30103).tdiv 100000 = x0 at HX0 ⊢
            clear hbb1 hbb2
            go_loopg [14] (400 - x0).toNat (fun k v14 w' => ∃ x : Int, v14 = .int .i64 x ∧ x + (k : Int) = 400 ∧ -400 ≤ x ∧ Aside0 (Below w.heap.size w w') ∧ Aside0 (Rd w' (.slice A2 (l2 + 1) c2) (words (fP a))) ∧ Aside0 (Rd w' v3 (words (fQ a))) ∧ Aside0 (C3 w' w.heap.size))
            case atStart => exact ⟨x0, rfl, by have := HX0.out; omega, HX0.out.1, HB5, HR5, HD5, HC5⟩
            case round =>
              clear HB5 HR5 HC5 HD5 HX0
              obtain ⟨x, rfl, hxk, hx0, HB, HR, HD, HC⟩ := hrel
              go_wp2_with fail
              refine (ge_any wr _ _ (fP a) (fQ a) x HR.out HD.out (by have := HPW.out; omega) (by have := HQW.out; omega) (by omega) (by omega)).mono ?_
              rintro e w6 ⟨rfl, hb3⟩
              have HB3 := Aside0.mk (HB.out.trans (hb3.mono HB.out.size))
              have HR3 := Aside0.mk (HR.out.below hb3)
              have HD3 := Aside0.mk (HD.out.below hb3)
              have HC3 := Aside0.mk (HC.out.below hb3)
              clear HB HR HC HD hb3
              by_cases hg : Ge (fP a) (fQ a) x
              · have HG := Aside0.mk hg
                have hx4 : x < 400 := by
                  rcases (by omega : x < 400 ∨ 400 ≤ x) with h | h
                  · exact h
                  · exact absurd (ge_anti h hg) (not_ge_400 a HF.out)
                rw [show decide (fQ a * 10 ^ x.toNat ≤ fP a * 10 ^ (-x).toNat) = true from decide_eq_true hg]
                clear hg
                go_wp2_with fail
                go_roundg (gk - 1)
                case measure => omega
                case rel => exact ⟨x + 1, by go_num, by omega, by omega, HB3, HR3, HD3, HC3⟩
              · have HG := Aside0.mk hg
                have hx4 : -399 ≤ x := by
                  rcases (by omega : x < -399 ∨ -399 ≤ x) with h | h
                  · exact absurd (ge_anti (by omega) (ge_m400 a HM.out)) hg
                  · exact h
                rw [show decide (fQ a * 10 ^ x.toNat ≤ fP a * 10 ^ (-x).toNat) = false from decide_eq_false hg]
                clear hg
                have hx40 : x ≤ 400 := by omega
                clear hxk
                go_wp2_with fail
                obtain ⟨g0, rfl⟩ : ∃ g0 : Nat, g0 = gk := ⟨_, rfl⟩
                obtain ⟨x1, rfl⟩ : ∃ x1 : Int, x1 = x := ⟨_, rfl⟩
                obtain ⟨wo, rfl⟩ : ∃ wo : World, wo = wr := ⟨_, rfl⟩
                go_loopg [14] (x1 + 399).toNat (fun k v14 w' => ∃ x : Int, v14 = .int .i64 x ∧ x + 399 = (k : Int) ∧ x ≤ 400 ∧ Aside0 (¬ Ge (fP a) (fQ a) x) ∧ Aside0 (Below w.heap.size w w') ∧ Aside0 (Rd w' (.slice A2 (l2 + 1) c2) (words (fP a))) ∧ Aside0 (Rd w' v3 (words (fQ a))) ∧ Aside0 (C3 w' w.heap.size))
                case atStart => exact ⟨x1, rfl, by omega, hx40, HG, HB3, HR3, HD3, HC3⟩
                case round =>
                  clear HB3 HR3 HC3 HD3 HG hx40 hx4 hx0
                  obtain ⟨x, rfl, hxk, hx0, HG, HB, HR, HD, HC⟩ := hrel
                  go_wp2_with fail
                  refine (ge_any wr _ _ (fP a) (fQ a) (x - 1) HR.out HD.out (by have := HPW.out; omega) (by have := HQW.out; omega) (by omega) (by omega)).mono ?_
                  rintro e w7 ⟨rfl, hb3⟩
                  have HB3 := Aside0.mk (HB.out.trans (hb3.mono HB.out.size))
                  have HR3 := Aside0.mk (HR.out.below hb3)
                  have HD3 := Aside0.mk (HD.out.below hb3)
                  have HC3 := Aside0.mk (HC.out.below hb3)
                  clear HB HR HC HD hb3
                  by_cases hg : Ge (fP a) (fQ a) (x - 1)
                  · have HX := Aside0.mk (fX_eq ⟨HG.out, hg⟩)
                    rw [show decide (fQ a * 10 ^ (x - 1).toNat ≤ fP a * 10 ^ (-(x - 1)).toNat) = true from decide_eq_true hg]
                    clear hg
                    have hx9 : -399 ≤ x := by omega
                    clear hxk
                    go_wp2_with fail
                    refine (scaled_any w7 _ _ (fP a) (fQ a) (m - x) HR3.out HD3.out (by have := HPW.out; omega) (by have := HQW.out; omega) (fQ_pos a) (by omega) (by omega)).mono ?_
                    have hR : rne (fP a * 10 ^ ((m : Int) - x).toNat) (fQ a * 10 ^ (-((m : Int) - x)).toNat) = fR a m := by
                      unfold fR
                      rw [HX.out, show -((m : Int) - x) = x - m by omega]
                    rw [hR]
                    clear hR
                    obtain ⟨T, hT⟩ : ∃ T, T = Lib.decDigits (fR a m) := ⟨_, rfl⟩
                    rw [decS_eq, ← hT]
                    have hsz : (S T).size = T.length := S_size T
                    rintro e w8 ⟨rfl, hb5⟩
                    have HB5 := Aside0.mk (HB3.out.trans (hb5.mono HB3.out.size))
                    obtain ⟨_, ⟨_, k0⟩, ⟨_, k1⟩, ⟨_, k2⟩, f0, f1, f2⟩ := HC3.out.below hb5
                    have HTT := Aside0.mk hT
                    clear hT hb5
                    by_cases hl : m < T.length
                    · have HS := Aside0.mk (show repT a m = T.take m ∧ repX a m = x + 1 ∧ repN a m = fNeg a ∧ repE a m = 0 by
                        simp only [repT, repX, repN, repE, if_neg HRep.out, if_neg HM.out, Int.toNat_natCast, ← HTT.out, if_pos hl, HX.out, and_self])
                      have hsl := slice_to T m (by omega)
                      obtain ⟨U, hU⟩ : ∃ U, U = S (T.take m) := ⟨_, rfl⟩
                      have HU := Aside0.mk hU
                      rw [← hU] at hsl
                      have hl2 : (m : Int) < T.length := by omega
                      obtain ⟨tl, htl⟩ : ∃ tl, tl = T.length := ⟨_, rfl⟩
                      rw [← htl] at hsz hl2
                      obtain ⟨V, hV⟩ : ∃ V, V = S T := ⟨_, rfl⟩
                      rw [← hV] at hsz hsl ⊢
                      clear hU htl hl HTT hV
                      go_wp2_with fail
                      refine bodyPost_ret (v := .tuple #[.agg #[.string U, .int .i64 (x + 1), .bool (fNeg a)], .int .i64 0]) (by simp [results, Tryz.results17, go_sem, k0, k1, k2]) rfl ⟨by obtain ⟨e1, e2, e3, e4⟩ := HS.out; rw [e1, e2, e3, e4, HU.out], ((HB5.out.setCell (p := ⟨w.heap.size, 0, none⟩) (Nat.le_refl _) _).setCell (p := ⟨w.heap.size, 1, none⟩) (Nat.le_refl _) _).setCell (p := ⟨w.heap.size, 2, none⟩) (Nat.le_refl _) _⟩
                    · have HS := Aside0.mk (show repT a m = T ∧ repX a m = x ∧ repN a m = fNeg a ∧ repE a m = 0 by
                        simp only [repT, repX, repN, repE, if_neg HRep.out, if_neg HM.out, Int.toNat_natCast, ← HTT.out, if_neg hl, HX.out, and_self])
                      have hl2 : (T.length : Int) ≤ m := by omega
                      obtain ⟨tl, htl⟩ : ∃ tl, tl = T.length := ⟨_, rfl⟩
                      rw [← htl] at hsz hl2
                      obtain ⟨U, hU⟩ : ∃ U, U = S T := ⟨_, rfl⟩
                      have HU := Aside0.mk hU
                      rw [← hU] at hsz ⊢
                      clear hU htl hl HTT
                      go_wp2_with fail
                      refine bodyPost_ret (v := .tuple #[.agg #[.string U, .int .i64 x, .bool (fNeg a)], .int .i64 0]) (by simp [results, Tryz.results17, go_sem, k0, k1, k2]) rfl ⟨by obtain ⟨e1, e2, e3, e4⟩ := HS.out; rw [e1, e2, e3, e4, HU.out], ((HB5.out.setCell (p := ⟨w.heap.size, 0, none⟩) (Nat.le_refl _) _).setCell (p := ⟨w.heap.size, 1, none⟩) (Nat.le_refl _) _).setCell (p := ⟨w.heap.size, 2, none⟩) (Nat.le_refl _) _⟩
                  · have HG := Aside0.mk hg
                    have hx4 : -399 ≤ x - 1 := by
                      rcases (by omega : x - 1 < -399 ∨ -399 ≤ x - 1) with h | h
                      · exact absurd (ge_anti (by omega) (ge_m400 a HM.out)) hg
                      · exact h
                    rw [show decide (fQ a * 10 ^ (x - 1).toNat ≤ fP a * 10 ^ (-(x - 1)).toNat) = false from decide_eq_false hg]
                    clear hg
                    go_wp2_with fail
                    go_roundg (gk - 1)
                    case measure => omega
                    case rel => exact ⟨x - 1, by go_num, by omega, by omega, HG, HB3, HR3, HD3, HC3⟩
  · obtain ⟨rfl, hb⟩ := hs2 hf
    have HS := Aside0.mk (show repT a n = [] ∧ repX a n = 0 ∧ repN a n = false ∧ repE a n = 1 by simp [repT, repX, repN, repE, hf])
    have HB := Aside0.mk (below_alloc (Below.refl _ _) _ |>.trans (hb.mono (by simp)) : Below w.heap.size w w1)
    obtain ⟨_, ⟨_, k0⟩, ⟨_, k1⟩, ⟨_, k2⟩, f0, f1, f2⟩ := (C3.new w _ _ _ 33).below hb
    clear hs1 hs2 hb hf
    by_cases hn1 : n < 1
    · go_wp2_with fail
      refine bodyPost_ret (v := .tuple #[.agg #[.string { data := #[] }, .int .i64 0, .bool false], .int .i64 1]) (by simp [results, Tryz.results17, go_sem, k0, k1, k2]) rfl ⟨by obtain ⟨e1, e2, e3, e4⟩ := HS.out; rw [e1, e2, e3, e4]; rfl, ((HB.out.setCell (p := ⟨w.heap.size, 0, none⟩) (Nat.le_refl _) _).setCell (p := ⟨w.heap.size, 1, none⟩) (Nat.le_refl _) _).setCell (p := ⟨w.heap.size, 2, none⟩) (Nat.le_refl _) _⟩
    · by_cases hn2 : 40 < n
      · go_wp2_with fail
        refine bodyPost_ret (v := .tuple #[.agg #[.string { data := #[] }, .int .i64 0, .bool false], .int .i64 1]) (by simp [results, Tryz.results17, go_sem, k0, k1, k2]) rfl ⟨by obtain ⟨e1, e2, e3, e4⟩ := HS.out; rw [e1, e2, e3, e4]; rfl, ((HB.out.setCell (p := ⟨w.heap.size, 0, none⟩) (Nat.le_refl _) _).setCell (p := ⟨w.heap.size, 1, none⟩) (Nat.le_refl _) _).setCell (p := ⟨w.heap.size, 2, none⟩) (Nat.le_refl _) _⟩
      · go_wp2_with fail
        refine bodyPost_ret (v := .tuple #[.agg #[.string { data := #[] }, .int .i64 0, .bool false], .int .i64 1]) (by simp [results, Tryz.results17, go_sem, k0, k1, k2]) rfl ⟨by obtain ⟨e1, e2, e3, e4⟩ := HS.out; rw [e1, e2, e3, e4]; rfl, ((HB.out.setCell (p := ⟨w.heap.size, 0, none⟩) (Nat.le_refl _) _).setCell (p := ⟨w.heap.size, 1, none⟩) (Nat.le_refl _) _).setCell (p := ⟨w.heap.size, 2, none⟩) (Nat.le_refl _) _⟩

end Go.Proofs.YthknbknmlnnhcaaGreatDoor
