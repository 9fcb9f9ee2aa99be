/- Walks: bobbinref2.Divide. -/
import Derived.Test.YthknbknmlnnhcaaGreatDoorWm
namespace Go.Proofs.YthknbknmlnnhcaaGreatDoor
open Go.RowKit Go.Proofs.YthknbknmlnnhcaaGreatDoorW.PrintWords Bob
set_option linter.unusedVariables false
set_option linter.unusedSimpArgs false

theorem cmpN_le {a b : Nat} (h : a ≤ b) : decide (cmpN a b ≤ 0) = true := by
  unfold cmpN
  split
  · rfl
  · rw [if_pos (by omega)]; rfl
theorem words_one {m : Nat} (h0 : m ≠ 0) (h : m < 4294967296) : words m = [(m : Int)] := by
  rw [words_pos h0, Nat.mod_eq_of_lt h, Nat.div_eq_of_lt h, words_zero]
theorem lit_rd (W : World) (M : Nat) (h0 : M ≠ 0) (h : M < 4294967296) : Rd (W.alloc (.cells #[.int .u32 (M : Int)] 108)) (.slice (some ⟨W.heap.size, 0, none⟩) 1 1) (words M) := by
  rw [words_one h0 h]
  exact (Ow.lit W W.heap.size [(M : Int)] (Nat.le_refl _) (by simp)).reads
theorem words_two_len {m k : Nat} (h : m < 4294967296 ^ k) : (words m).length ≤ k := words_len_le h

theorem rdiv_step (l Q : List Int) (m D R t : Nat) (X : Int) (hX : l.getD m 0 = X) (hm : m < Q.length)
    (h : val (l.drop (m + 1)) = val (Q.drop (m + 1)) * D + R) (ht : D * t ≤ X.toNat + 4294967296 * R) :
    val (l.drop m) = val ((Q.set m (t : Int)).drop m) * D + (X.toNat + 4294967296 * R - D * t) := by
  rw [val_drop', val_drop' (Q.set m _), drop_set_lt _ _ _ _ (Nat.lt_succ_self m), getD_set _ _ _ _ hm, if_pos rfl, hX, h]
  simp only [Int.toNat_natCast]
  generalize val (Q.drop (m + 1)) = V
  obtain ⟨e, he⟩ : ∃ e, X.toNat + 4294967296 * R = D * t + e := ⟨_, (Nat.add_sub_cancel' ht).symm⟩
  rw [he, Nat.add_sub_cancel_left]
  have e2 : 4294967296 * (V * D + R) = 4294967296 * V * D + 4294967296 * R := by grind
  have e3 : (t + 4294967296 * V) * D = D * t + 4294967296 * V * D := by grind
  rw [e2, e3]
  omega
theorem rdiv_skip (l Q : List Int) (m D R : Nat) (X : Int) (hX : l.getD m 0 = X) (hm : m < Q.length) (hz : Q.getD m 0 = 0)
    (h : val (l.drop (m + 1)) = val (Q.drop (m + 1)) * D + R) :
    val (l.drop m) = val (Q.drop m) * D + (X.toNat + 4294967296 * R) := by
  rw [val_drop', val_drop' Q, hX, h, hz]
  generalize val (Q.drop (m + 1)) = V
  have e2 : 4294967296 * (V * D + R) = 4294967296 * V * D + 4294967296 * R := by grind
  rw [e2]
  simp only [Int.toNat_zero, Nat.zero_add]
  omega
theorem rdiv_top {X R D : Nat} (hx : X < 4294967296) (hR : R < D) : X + 4294967296 * R < D * 4294967296 := by
  have : (R + 1) * 4294967296 ≤ D * 4294967296 := Nat.mul_le_mul_right _ hR
  omega
theorem rdiv_rest {S D t : Nat} (h1 : D * t ≤ S) (h2 : S < D * (t + 1)) : S - D * t < D := by
  rw [Nat.mul_add] at h2; omega

set_option maxRecDepth 100000 in
set_option maxHeartbeats 2000000 in
theorem rdivide_any (w : World) (v1 v2 : Value) (N1 N2 : Nat) (h1 : Rd w v1 (words N1)) (h2 : Rd w v2 (words N2)) (hk1 : (words N1).length ≤ 2000) (hk2 : (words N2).length ≤ 900) (hne : N2 ≠ 0) :
    Calls Tryz.prog 112 #[v1, v2] w (RetDiv (N1 / N2) (N1 % N2) w) := by
  have HK := Aside0.mk (And.intro hk1 hk2)
  have HR := Aside0.mk (And.intro h1 h2)
  have HNE := Aside0.mk hne
  clear hk1 hk2 h1 h2 hne
  go_enter Tryz.func112, Tryz.ntmps112
  go_wp2_with fail
  refine (rlarge_num _ _ N1 HR.out.1 (by have := HK.out; omega)).mono ?_
  rintro e w1 ⟨rfl, hb1⟩
  have HB1 := Aside0.mk hb1
  clear hb1
  go_wp2_with fail
  refine (rlarge_num _ _ N2 (HR.out.2.below HB1.out) (by have := HK.out; omega)).mono ?_
  rintro e w2 ⟨rfl, hb2⟩
  have HB2 := Aside0.mk hb2
  clear hb2
  go_wp2_with fail
  refine (rtrimmed_num _ _ N1 ((HR.out.1.below HB1.out).below HB2.out)).mono ?_
  intro e w3 hr1
  obtain ⟨n1, A1, c1, rfl, HL1, hc1, hm1, HC1, HB3⟩ := hr1.elim
  clear hr1
  go_wp2_with fail
  refine (rtrimmed_num _ _ N2 (((HR.out.2.below HB1.out).below HB2.out).below HB3.out)).mono ?_
  intro e w4 hr2
  obtain ⟨n2, A2, c2, rfl, HL2, hc2, hm2, HC2, HB4⟩ := hr2.elim
  clear hr2
  have HB := Aside0.mk (((HB1.out.trans (HB2.out.mono HB1.out.size)).trans (HB3.out.mono (Nat.le_trans HB1.out.size HB2.out.size))).trans (HB4.out.mono (Nat.le_trans HB1.out.size (Nat.le_trans HB2.out.size HB3.out.size))))
  have HC := Aside0.mk (Kd.C_below HC1.out HB4.out)
  have hb1 : n1 ≤ 2000 := HL1.out ▸ HK.out.1
  have hb2 : n2 ≤ 900 := HL2.out ▸ HK.out.2
  have hb3 : n2 ≠ 0 := fun h => HNE.out (words_len_zero.1 (HL2.out ▸ h))
  clear HC1 HB1 HB2 HB3 HB4 hm1 hm2 HR
  by_cases hone : n2 = 1
  · subst hone
    obtain ⟨ad2, Y, rfl, HY, hy⟩ := C_at HC2.out 0 (by omega)
    have DY := dg_getD (dg_words N2) 0
    rw [HY.out] at DY
    have e1 : words N2 = [Y] := by
      have := HL2.out
      rcases hw : words N2 with _ | ⟨a, l⟩
      · rw [hw] at this; cases this
      · rw [hw] at this
        have e2 : l = [] := List.length_eq_zero_iff.1 (by simpa using this.symm)
        have e3 := HY.out
        rw [hw] at e3
        rw [e2]
        simpa using e3
    have e2 : N2 = Y.toNat := by
      have := val_words N2
      rw [e1] at this
      simp [val] at this
      omega
    obtain ⟨D, rfl⟩ := Int.eq_ofNat_of_zero_le DY.1
    simp only [Int.toNat_natCast] at e2
    subst e2
    have HD := Aside0.mk (show 0 < N2 ∧ N2 < 4294967296 by have := HNE.out; omega)
    clear DY e1
    rw [show ad2.add 0 = ad2 from rfl] at hy
    go_wp2_with fail
    refine (rsmall_any _ _ N1 N2 (C_rd HC.out hc1) (by have := HL1.out; omega) HD.out).mono ?_
    rintro e w5 ⟨q, r, rfl, hr1, hr2, hb5⟩
    go_wp2_with fail
    exact bodyPost_ret (v := .tuple #[q, r, .int .i64 0]) (by simp [results, Tryz.results112, go_sem]) rfl ⟨q, r, rfl, hr1, hr2, HB.out.trans (hb5.mono HB.out.size)⟩
  · go_wp2_with (refine mk_u32 (.tmp 46) (.tmp 46) rfl rfl rfl _ rfl rfl ?m1 ?m2 ?_)
    case m1 => omega
    case m2 => omega
    intro v5 w5 ho hb3
    obtain ⟨A5, c5, rfl⟩ := Kd.R_slice ho
    rw [List.length_replicate] at ho ⊢
    have HB5 := Aside0.mk hb3
    have HO := Aside0.mk ho
    clear ho hb3
    first | rw [Int.toNat_natCast] | skip
    go_wp2_with fail
    go_loopg [10, 11] n1 (fun k v10 v11 w' => ∃ (j : Nat) (i : Int) (R : Nat) (Q : List Int), v11 = .int .i64 i ∧ i = (j : Int) - 1 ∧ j ≤ k ∧ j ≤ n1 ∧ Aside0 (Q.length = n1) ∧ Aside0 (Dg Q) ∧ Aside0 (R < N2) ∧ Aside0 (val ((words N1).drop j) = val (Q.drop j) * N2 + R) ∧ Aside0 (∀ k, k < j → Q.getD k 0 = 0) ∧ Aside0 (Rd w' v10 (words R)) ∧ Aside0 (Ow w' w4.heap.size (.slice A5 n1 c5) Q) ∧ Aside0 (Below w4.heap.size w4 w'))
    case atStart => exact ⟨n1, _, 0, _, rfl, rfl, Nat.le_refl _, Nat.le_refl _, ⟨List.length_replicate⟩, ⟨dg_replicate _⟩, ⟨by have := HNE.out; omega⟩, ⟨by rw [List.drop_of_length_le (by rw [← HL1.out]; exact Nat.le_refl _), List.drop_of_length_le (by rw [List.length_replicate]; exact Nat.le_refl _)]; simp [val]⟩, ⟨fun k _ => by rw [List.getD_eq_getElem?_getD, List.getElem?_replicate]; split <;> rfl⟩, ⟨by rw [words_zero]; exact rd_nil _⟩, HO, HB5⟩
    case round =>
      clear HO HB5
      obtain ⟨j, i, R, Q, rfl, hi, hk, hn, HQL, HQD, HRD, HV, HZ, HRR, HO, HB5⟩ := hrel
      cases j with
      | zero =>
        obtain rfl : i = -1 := by omega
        clear hi
        have hq : val Q = N1 / N2 ∧ R = N1 % N2 := by
          have e := HV.out
          simp only [List.drop_zero, val_words] at e
          have hr := HRD.out
          have h0 : 0 < N2 := by omega
          rw [Nat.mul_comm] at e
          subst e
          exact ⟨by rw [Nat.mul_add_div h0, Nat.div_eq_of_lt hr]; rfl, by rw [Nat.mul_add_mod]; exact (Nat.mod_eq_of_lt hr).symm⟩
        have HQ := Aside0.mk hq
        clear hq
        go_wp2_with fail
        refine (rnorm_any _ _ Q HQD.out HO.out.reads (by rw [HQL.out]; omega)).mono ?_
        rw [HQ.out.1]
        rintro e w9 ⟨v9, rfl, hr9, hb9⟩
        have HR9 := Aside0.mk hr9
        have HB9 := Aside0.mk hb9
        clear hr9 hb9
        go_wp2_with fail
        exact bodyPost_ret (v := .tuple #[v9, u10, .int .i64 0]) (by simp [results, Tryz.results112, go_sem]) rfl ⟨_, _, rfl, HR9.out, HQ.out.2 ▸ HRR.out.below HB9.out, (HB.out.trans (HB5.out.mono HB.out.size)).trans (HB9.out.mono (Nat.le_trans HB.out.size HB5.out.size))⟩
      | succ m =>
        obtain rfl : i = (m : Int) := by omega
        clear hi
        obtain ⟨ad1, X, rfl, HX, hx⟩ := C_at (Kd.C_below HC.out HB5.out) m (by omega)
        obtain ⟨g, cap, he, hg1, hg2⟩ := HO.out.form (by rw [HQL.out]; omega)
        injection he with e1 e2 e3
        subst e1 e3
        have HG := Aside0.mk hg1
        have DX := Aside0.mk (HX.out ▸ dg_getD (dg_words N1) m : 0 ≤ X ∧ X < 4294967296)
        have HG1 := Aside0.mk hg2
        clear hg1 hg2 e2
        obtain ⟨S, hS⟩ : ∃ S, S = X.toNat + 4294967296 * R := ⟨_, rfl⟩
        have HS := Aside0.mk hS
        have HX2 := Aside0.mk (show Dg ([X] ++ words R) from dg_append.2 ⟨dg_cons.2 ⟨DX.out, dg_nil⟩, dg_words _⟩)
        have HV2 := Aside0.mk (show val ([X] ++ words R) = S by rw [val_append, val_words, hS]; simp [val])
        have HRL := Aside0.mk (show (words R).length ≤ 900 from Nat.le_trans (words_len_mono (Nat.le_of_lt HRD.out)) (by rw [← HL2.out]; exact hb2))
        obtain ⟨nr, Ar, cr, rfl, HLr, hcr, hmr, HCr⟩ := HRR.out.elim
        have hnr : nr ≤ 900 := HLr.out ▸ HRL.out
        clear hS hmr HRL HRR
        go_wp2_with (at_builtin; refine app_u32 (w0 := wr) (.tmp 59) (.tmp 60) wr.heap.size rfl rfl _ [X] (words R) _ _ _ rfl rfl ?c1 ?c2 ?c3 ?c4 ?c5 ?_)
        case c1 => exact Ow.lit wr wr.heap.size [X] (Nat.le_refl _) (by simp)
        case c2 => exact Kd.C_alloc HCr.out _
        case c3 => exact (Below.refl _ _).alloc (Nat.le_refl _) _
        case c4 => simp
        case c5 => simp; omega
        intro v61 w61 ho61 hb61
        have HB61 := Aside0.mk hb61
        have HO61 := Aside0.mk ho61
        clear hb61 ho61
        go_wp2_with fail
        refine (rnorm_any _ _ _ HX2.out HO61.out.reads (by rw [List.length_append, ← HLr.out]; simp; omega)).mono ?_
        rw [HV2.out]
        intro e w62 hr
        obtain ⟨ns, As, cs, rfl, HLs, hcs, hms, HCs, HB62⟩ := hr.elim
        have HB5b := Aside0.mk (HB5.out.trans ((HB61.out.trans (HB62.out.mono HB61.out.size)).mono HB5.out.size))
        have HO62 := Aside0.mk (HO.out.below (HB61.out.trans (HB62.out.mono HB61.out.size)))
        have HLS : Aside0 (ns ≤ 901) := ⟨by
          rw [HLs.out]
          have h1 := words_lt N2
          have h3 := rdiv_top (show X.toNat < 4294967296 by have := DX.out; omega) HRD.out
          rw [← HS.out] at h3
          have h4 : S < 4294967296 ^ ((words N2).length + 1) := by
            rw [Nat.pow_succ]
            exact Nat.lt_of_lt_of_le h3 (Nat.mul_le_mul_right _ (Nat.le_of_lt h1))
          have := words_len_le h4
          have := HL2.out
          omega⟩
        have hls : ns ≤ 901 := HLS.out
        have HG62 := Aside0.mk (Nat.lt_of_lt_of_le HG1.out (Nat.le_trans HB61.out.size HB62.out.size))
        clear hr HB61 HB62 HO61 HO HB5 HX2 HV2 HCr HG1
        rcases Nat.lt_or_ge S N2 with hlt | hge
        · have HLT := Aside0.mk hlt
          have hcmp : cmpN S N2 = -1 := by rw [cmpN, if_pos hlt]
          go_wp2_with fail
          refine (rcompare_any _ _ _ S N2 (C_rd HCs.out hcs) (C_rd (Kd.C_below HC2.out HB5b.out) hc2)).mono ?_
          rw [hcmp]
          rintro e w63 ⟨rfl, hb63⟩
          have HB63 := Aside0.mk hb63
          clear hb63 hcmp
          go_wp2_with fail
          go_roundg m
          case measure => omega
          case rel => exact ⟨m, _, S, Q, rfl, rfl, Nat.le_refl _, by omega, HQL, HQD, HLT, ⟨by rw [HS.out]; exact rdiv_skip _ _ m N2 R X HX.out (by rw [HQL.out]; omega) (HZ.out m (Nat.lt_succ_self m)) HV.out⟩, ⟨fun k hk => HZ.out k (by omega)⟩, ⟨C_rd (Kd.C_below HCs.out HB63.out) hcs⟩, ⟨HO62.out.below HB63.out⟩, ⟨HB5b.out.trans (HB63.out.mono HB5b.out.size)⟩⟩
        · have HGE := Aside0.mk hge
          have hcmp : decide (cmpN S N2 < 0) = false := by rw [cmpN, if_neg (by omega)]; split <;> rfl
          obtain ⟨cc, hcc⟩ : ∃ cc, cc = cmpN S N2 := ⟨_, rfl⟩
          rw [← hcc] at hcmp
          clear hge
          go_wp2_with fail
          refine (rcompare_any _ _ _ S N2 (C_rd HCs.out hcs) (C_rd (Kd.C_below HC2.out HB5b.out) hc2)).mono ?_
          rw [← hcc]
          rintro e w63 ⟨rfl, hb63⟩
          have HB63 := Aside0.mk hb63
          have HCs63 := Aside0.mk (Kd.C_below HCs.out hb63)
          have HO63 := Aside0.mk (HO62.out.below hb63)
          have HG2 := Aside0.mk (Nat.lt_of_lt_of_le HG62.out hb63.size)
          have HB64 := Aside0.mk (HB5b.out.trans (hb63.mono HB5b.out.size))
          clear hb63 HCs HO62 HB63 hcc
          go_wp2_with fail
          obtain ⟨wo, rfl⟩ : ∃ wo : World, wo = wr := ⟨_, rfl⟩
          obtain ⟨g0, rfl⟩ : ∃ g0 : Nat, g0 = gk := ⟨_, rfl⟩
          go_loopg [12, 13] 4294967295 (fun k v12 v13 w' => ∃ (lo hi : Nat), v12 = .int .u64 (lo : Int) ∧ v13 = .int .u64 (hi : Int) ∧ 1 ≤ lo ∧ lo ≤ hi ∧ hi ≤ 4294967295 ∧ hi - lo ≤ k ∧ Aside0 (N2 * lo ≤ S ∧ S < N2 * (hi + 1)) ∧ Aside0 (Below w63.heap.size w63 w'))
          case atStart => exact ⟨1, 4294967295, rfl, rfl, by omega, by omega, by omega, by omega, ⟨⟨by rw [Nat.mul_one]; exact HGE.out, by rw [HS.out]; exact rdiv_top (by have := DX.out; omega) HRD.out⟩⟩, ⟨Below.refl _ _⟩⟩
          case round =>
            obtain ⟨lo, hi, rfl, rfl, hlo, hlh, hhi, hkk, HI, HBI⟩ := hrel
            by_cases hll : lo < hi
            · go_wp2_with fail
              obtain ⟨M, hM⟩ : ∃ M : Nat, M = (lo + hi + 1) / 2 := ⟨_, rfl⟩
              rw [show ((lo : Int) + hi + 1) / 2 = (M : Int) by omega]
              refine (rmul_any _ _ _ N2 M (C_rd (Kd.C_alloc (Kd.C_below HC2.out (HB64.out.trans (HBI.out.mono HB64.out.size))) _) hc2) (lit_rd wr M (by omega) (by omega)) (by rw [← HL2.out]; omega) (by rw [words_one (by omega) (by omega)]; simp)).mono ?_
              rintro e w71 ⟨v71, rfl, hr71, hb71⟩
              have HB71 := Aside0.mk (Below.trans (below_alloc (Below.refl wr.heap.size wr) _) (hb71.mono (by simp)))
              have HR71 := Aside0.mk hr71
              clear hb71 hr71
              rcases Nat.lt_or_ge S (N2 * M) with hlt | hge
              · have HLT := Aside0.mk hlt
                have hcmp : cmpN (N2 * M) S = 1 := by rw [cmpN, if_neg (by omega), if_neg (by omega)]
                go_wp2_with fail
                refine (rcompare_any _ _ _ (N2 * M) S HR71.out (C_rd (Kd.C_below HCs63.out (HBI.out.trans (HB71.out.mono HBI.out.size))) hcs)).mono ?_
                rw [hcmp]
                rintro e w72 ⟨rfl, hb72⟩
                have HB72 := Aside0.mk hb72
                clear hb72 hcmp hlt
                go_wp2_with fail
                go_roundg (M - 1 - lo)
                case measure => omega
                case rel => exact ⟨lo, M - 1, rfl, by go_num, hlo, by omega, by omega, by omega, ⟨⟨HI.out.1, by rw [show M - 1 + 1 = M by omega]; exact HLT.out⟩⟩, ⟨(HBI.out.trans (HB71.out.mono HBI.out.size)).trans (HB72.out.mono (Nat.le_trans HBI.out.size HB71.out.size))⟩⟩
              · have HGE := Aside0.mk hge
                have hcmp : decide (cmpN (N2 * M) S ≤ 0) = true := cmpN_le hge
                obtain ⟨c9, hc9⟩ : ∃ cc, cc = cmpN (N2 * M) S := ⟨_, rfl⟩
                rw [← hc9] at hcmp
                go_wp2_with fail
                refine (rcompare_any _ _ _ (N2 * M) S HR71.out (C_rd (Kd.C_below HCs63.out (HBI.out.trans (HB71.out.mono HBI.out.size))) hcs)).mono ?_
                rw [← hc9]
                rintro e w72 ⟨rfl, hb72⟩
                have HB72 := Aside0.mk hb72
                clear hb72 hc9 hge
                go_wp2_with fail
                go_roundg (hi - M)
                case measure => omega
                case rel => exact ⟨M, hi, congrArg (Value.int .u64) (by omega), rfl, by omega, by omega, hhi, by omega, ⟨⟨HGE.out, HI.out.2⟩⟩, ⟨(HBI.out.trans (HB71.out.mono HBI.out.size)).trans (HB72.out.mono (Nat.le_trans HBI.out.size HB71.out.size))⟩⟩
            · obtain rfl : lo = hi := by omega
              go_wp2_with fail
              refine (rmul_any _ _ _ N2 lo (C_rd (Kd.C_alloc (Kd.C_below HC2.out (HB64.out.trans (HBI.out.mono HB64.out.size))) _) hc2) (lit_rd wr lo (by omega) (by omega)) (by rw [← HL2.out]; omega) (by rw [words_one (by omega) (by omega)]; simp)).mono ?_
              rintro e w71 ⟨v71, rfl, hr71, hb71⟩
              have HB71 := Aside0.mk (HBI.out.trans ((Below.trans (below_alloc (Below.refl wr.heap.size wr) _) (hb71.mono (by simp))).mono HBI.out.size))
              have HR71 := Aside0.mk hr71
              clear hb71 hr71
              go_wp2_with fail
              refine (rsub_any _ _ _ S (N2 * lo) (C_rd (Kd.C_below HCs63.out HB71.out) hcs) HR71.out (by rw [← HLs.out]; omega) HI.out.1).mono ?_
              rintro e w72 ⟨v72, rfl, hr72, hb72⟩
              have HB72 := Aside0.mk (HB71.out.trans (hb72.mono HB71.out.size))
              have HR72 := Aside0.mk (show Ow w72 w71.heap.size v72 (words (S - N2 * lo)) from hr72)
              clear hb72 hr72
              have HO72 := Aside0.mk (HO63.out.below HB72.out)
              obtain ⟨Z, _, ho1, ho2⟩ := HO72.out.cell m (by omega)
              have HRN := Aside0.mk (rdiv_rest HI.out.1 HI.out.2)
              go_wp2_with fail
              go_roundg m
              case measure => omega
              case rel => exact ⟨m, _, S - N2 * lo, Q.set m (lo : Int), rfl, rfl, Nat.le_refl _, by omega, ⟨by rw [List.length_set]; exact HQL.out⟩, ⟨dg_set HQD.out _ _ (by omega)⟩, HRN, ⟨by rw [HS.out]; exact rdiv_step _ _ m N2 R lo X HX.out (by rw [HQL.out]; omega) HV.out (by rw [← HS.out]; exact HI.out.1)⟩, ⟨fun k hk => by rw [getD_set _ _ _ _ (by have := HQL.out; omega), if_neg (by omega)]; exact HZ.out k (by omega)⟩, ⟨HR72.out.setOther (Nat.lt_of_lt_of_le HG2.out HB71.out.size) m _⟩, ⟨HO72.out.put m _⟩, ⟨(HB64.out.trans (HB72.out.mono HB64.out.size)).setCell HG.out _⟩⟩

end Go.Proofs.YthknbknmlnnhcaaGreatDoor
