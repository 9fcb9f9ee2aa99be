/- Walk: nat.Divide, the long one. -/
import Derived.Test.YthknbknmlnnhcaaGreatDoorWh
import Derived.Test.YthknbknmlnnhcaaGreatDoorM
import Derived.Deep.DeepFit
import Derived.StillTailTactics
import Derived.BigRegion
namespace Go.Proofs.YthknbknmlnnhcaaGreatDoor
open Go.RowKit Go.Proofs.YthknbknmlnnhcaaGreatDoorW.PrintWords Bob
set_option linter.unusedVariables false
set_option linter.unusedSimpArgs false


theorem Only.grown {g : Nat} {w w' : World} (h : Only g w w') : w.grownBy w' (some g) := ⟨h.1.os, h.1.tape, h.1.output, h.1.size, fun i hi hne => h.2 i hi (fun e => hne (by rw [e]))⟩
theorem Ow.only {g g' n cap base : Nat} {w w' : World} {l : List Int} (h : Ow w base (.slice (some ⟨g', 0, none⟩) n cap) l) (ho : Only g w w') (hne : g' ≠ g) : Ow w' base (.slice (some ⟨g', 0, none⟩) n cap) l :=
  Kd.R_of_own (own_other (Kd.own_of_R h) ho.grown (.inr (by simp [Value.ownBlock]; exact hne))) (fun _ _ => trivial)
theorem off_some {g g' o : Nat} (h : g' ≠ g) : Off g (some ⟨g', o, none⟩) := fun ad e => by injection e with e; rw [← e]; exact h
theorem Only.setOther {g : Nat} (w : World) (i : Nat) (u : Value) : Only g w (w.setCell ⟨g, i, none⟩ u) := (Only.refl g w).put i u

/-- What the two rows of the long division are, when they have been moved. -/
def Rows2 (w5 : World) (N1 N2 s n1 n2 : Nat) (v10 v11 : Value) (wc : World) : Prop := ∃ (gu gv cu cv : Nat) (U V : List Int), v10 = .slice (some ⟨gu, 0, none⟩) (n1 + 1) cu ∧ v11 = .slice (some ⟨gv, 0, none⟩) n2 cv ∧ gu ≠ gv ∧ w5.heap.size ≤ gu ∧ w5.heap.size ≤ gv ∧ gu < wc.heap.size ∧ gv < wc.heap.size ∧
  Ow wc w5.heap.size (.slice (some ⟨gu, 0, none⟩) (n1 + 1) cu) U ∧ Dg U ∧ U.length = n1 + 1 ∧ val U = N1 * 2 ^ s ∧ Ow wc w5.heap.size (.slice (some ⟨gv, 0, none⟩) (n2 + 1) cv) V ∧ Dg V ∧ V.length = n2 + 1 ∧ val V = N2 * 2 ^ s ∧ n2 + 1 ≤ cv ∧ Below w5.heap.size w5 wc

set_option maxRecDepth 100000 in
set_option maxHeartbeats 2000000 in
theorem divide_long (w : World) (v1 v2 : Value) (N1 N2 : Nat) (h1 : Rd w v1 (words N1)) (h2 : Rd w v2 (words N2)) (hk1 : (words N1).length ≤ 2000) (hk2 : (words N2).length ≤ 2000) (hne : N2 ≠ 0) (hge : N2 ≤ N1) (hone : 2 ≤ (words N2).length) :
    Calls Tryz.prog 86 #[v1, v2] w (RetDiv (N1 / N2) (N1 % N2) w) := by
  have HK := Aside0.mk (And.intro hk1 hk2)
  have HR := Aside0.mk (And.intro h1 h2)
  clear hk1 hk2 h1 h2
  go_enter Tryz.func86, Tryz.ntmps86
  go_wp2_with fail
  refine (large_num _ _ N1 HR.out.1 (by have := HK.out; omega)).mono ?_
  rintro e w1 ⟨rfl, hb1⟩
  have HB1 := Aside0.mk hb1
  clear hb1
  go_wp2_with fail
  refine (large_num _ _ N2 (HR.out.2.below HB1.out) (by have := HK.out; omega)).mono ?_
  rintro e w2 ⟨rfl, hb2⟩
  have HB2 := Aside0.mk hb2
  clear hb2
  go_wp2_with fail
  refine (trim_num _ _ N1 ((HR.out.1.below HB1.out).below HB2.out)).mono ?_
  intro e w3 hr1
  obtain ⟨n1, A1, c1, rfl, HL1, hc1, hm1, HC1, HB3⟩ := hr1.elim
  clear hr1
  go_wp2_with fail
  refine (trim_num _ _ N2 (((HR.out.2.below HB1.out).below HB2.out).below HB3.out)).mono ?_
  intro e w4 hr2
  obtain ⟨n2, A2, c2, rfl, HL2, hc2, hm2, HC2, HB4⟩ := hr2.elim
  clear hr2
  have HB := Aside0.mk (((HB1.out.trans (HB2.out.mono HB1.out.size)).trans (HB3.out.mono (Nat.le_trans HB1.out.size HB2.out.size))).trans (HB4.out.mono (Nat.le_trans HB1.out.size (Nat.le_trans HB2.out.size HB3.out.size))))
  have HC := Aside0.mk (Kd.C_below HC1.out HB4.out)
  have hb1 : n1 ≤ 2000 := HL1.out ▸ HK.out.1
  have hb2 : n2 ≤ 2000 := HL2.out ▸ HK.out.2
  have hn2 : 0 < n2 := by rw [HL2.out]; exact words_len_pos hne
  clear HC1 HB1 HB2 HB3 HB4 hm1 hm2 HR
  go_wp2_with fail
  refine (compare_any _ _ _ (words N1) (words N2) (dg_words _) (dg_words _) (C_rd HC.out hc1) (C_rd HC2.out hc2)).mono ?_
  rw [val_words, val_words]
  rintro e w5 ⟨rfl, hb5⟩
  have HB5 := Aside0.mk (HB.out.trans (hb5.mono HB.out.size))
  have HC5 := Aside0.mk (Kd.C_below HC.out hb5)
  have HC6 := Aside0.mk (Kd.C_below HC2.out hb5)
  clear hb5 HB HC HC2
  have hcm : cmpN N1 N2 = 0 ∨ cmpN N1 N2 = 1 := by unfold cmpN; rw [if_neg (by omega)]; split <;> simp
  have hcm2 : decide (cmpN N1 N2 < 0) = false := decide_eq_false (by omega)
  have hn22 : 2 ≤ n2 := by rw [HL2.out]; exact hone
  obtain ⟨m, rfl⟩ : ∃ m, n2 = m + 1 := ⟨n2 - 1, by omega⟩
  obtain ⟨ad, X, rfl, HX, hx⟩ := C_at HC6.out m (by omega)
  have DX := Aside0.mk (HX.out ▸ dg_getD (dg_words N2) m : 0 ≤ X ∧ X < 4294967296)
  have hxp : X ≠ 0 := by
    have := words_top hne
    rwa [← HL2.out, Nat.add_sub_cancel, HX.out] at this
  have hbl : Lib.bitLen X.toNat = bl X.toNat := bl_eq_bitLen _ (by have := DX.out; omega)
  have hbl2 : bl X.toNat ≤ 32 := bl_le_of (by have := DX.out; omega)
  have hbl3 := bl_pos (n := X.toNat) (by have := DX.out; omega)
  obtain ⟨s, hs⟩ : ∃ s : Nat, (32 - (Lib.bitLen X.toNat : Int)) = s := ⟨32 - bl X.toNat, by rw [hbl]; omega⟩
  have hs32 : s < 32 := by rw [hbl] at hs; omega
  have hfit : N2 * 2 ^ s < 4294967296 ^ (m + 1) := by
    have h1 := (top_bounds hne).2
    rw [← HL2.out, Nat.add_sub_cancel, HX.out] at h1
    have h2 := bl_lt X.toNat
    have h3 : (X.toNat + 1) * 2 ^ s ≤ 2 ^ bl X.toNat * 2 ^ s := Nat.mul_le_mul_right _ h2
    rw [← Nat.pow_add, show bl X.toNat + s = 32 by rw [hbl] at hs; omega] at h3
    have h4 : N2 * 2 ^ s < (X.toNat + 1) * 4294967296 ^ m * 2 ^ s := Nat.mul_lt_mul_of_pos_right h1 (Nat.two_pow_pos s)
    rw [Nat.pow_succ]
    have h5 : (X.toNat + 1) * 4294967296 ^ m * 2 ^ s = 4294967296 ^ m * ((X.toNat + 1) * 2 ^ s) := by grind
    rw [h5] at h4
    exact Nat.lt_of_lt_of_le h4 (Nat.mul_le_mul_left _ h3)
  have HF := Aside0.mk hfit
  have HS := Aside0.mk hs32
  have HSE := Aside0.mk hs
  clear hcm hxp hbl hbl2 hbl3 hs hfit
  go_upto_region 12 with (go_at_call 136; refine (Tryz.bits_LeadingZeros32 _ _ DX.out.1 (by have := DX.out; omega)).mono ?_; rw [HSE.out]; rintro e w6 ⟨rfl, rfl⟩)
  go_cut [10, 11] (fun v10 v11 wc => Rows2 w6 N1 N2 s n1 (m + 1) v10 v11 wc)
  case first =>
    go_region_with (first
      | (go_at_call_of 137 c1; refine (moved_any _ _ (words N1) s (dg_words _) ((C_rd HC5.out hc1).below (by repeat first | exact HBV.out | apply below_drew1 | exact Below.refl _ _)) (by have := HK.out; omega) HS.out).mono ?_; rintro e wu ⟨vu, U, rfl, hou, hdu, hlu, hvu, hbu⟩; obtain ⟨gu, cu, rfl, hgu1, hgu2⟩ := hou.form (by omega); have hlu2 : U.length = n1 + 1 := hlu.trans (congrArg (· + 1) HL1.out.symm); rw [hlu2] at hou ⊢; have HU := Aside0.mk (And.intro hou (And.intro hdu (And.intro hlu2 (And.intro (hvu.trans (by rw [val_words])) (And.intro hgu1 (And.intro hgu2 hbu)))))); have HBU := Aside0.mk (show Below w6.heap.size w6 wu from Below.trans (by repeat first | exact HBV.out | apply below_drew1 | exact Below.refl _ _) (hbu.mono (by first | exact HBV.out.size | exact Nat.le_refl _))); clear hou hdu hlu hlu2 hvu hgu1 hgu2 hbu)
      | (go_at_call_of 137 c2; refine (moved_any _ _ (words N2) s (dg_words _) ((C_rd HC6.out hc2).below (by repeat first | exact HBU.out | apply below_drew1 | exact Below.refl _ _)) (by have := HK.out; omega) HS.out).mono ?_; rintro e wv ⟨vv, V, rfl, hov, hdv, hlv, hvv, hbv⟩; obtain ⟨gv, cv, rfl, hgv1, hgv2⟩ := hov.form (by omega); have hlv2 : V.length = m + 1 + 1 := hlv.trans (congrArg (· + 1) HL2.out.symm); have hcv := (Kd.R_reads' hov).2.1; rw [hlv2] at hov hcv ⊢; have HV := Aside0.mk (And.intro hov (And.intro hdv (And.intro hlv2 (And.intro (hvv.trans (by rw [val_words])) (And.intro hgv1 (And.intro hgv2 hbv)))))); have HBV := Aside0.mk (show Below w6.heap.size w6 wv from Below.trans (by repeat first | exact HBU.out | apply below_drew1 | exact Below.refl _ _) (hbv.mono (by first | exact HBU.out.size | exact Nat.le_refl _))); clear hov hdv hlv hlv2 hvv hgv1 hgv2 hbv))
    go_wp2_with fail
    go_meet
    case rel =>
      have h1 := HU.out
      have h2 := HV.out
      exact ⟨gu, gv, cu, cv, U, V, rfl, rfl, by have := h1.2.2.2.2.2.1; have := h2.2.2.2.2.1; omega, h1.2.2.2.2.1, Nat.le_trans HBU.out.size h2.2.2.2.2.1, Nat.lt_of_lt_of_le h1.2.2.2.2.2.1 h2.2.2.2.2.2.2.size, h2.2.2.2.2.2.1, (h1.1.below h2.2.2.2.2.2.2).lower (Nat.le_refl _), h1.2.1, h1.2.2.1, h1.2.2.2.1, h2.1.lower HBU.out.size, h2.2.1, h2.2.2.1, h2.2.2.2.1, hcv, HBV.out⟩
  case rest =>
    clear HC5 HC6 hx hcm2 hc1 hc2 DX HX HSE
    obtain ⟨gu, gv, cu, cv, U, V, rfl, rfl, hne1, hbu, hbv, hlu, hlv, hOU, hDU, hLU, hVU, hOV, hDV, hLV, hVV, hcv, hbel⟩ := hcut
    obtain ⟨V0, hV0⟩ : ∃ V0, V0 = V.take (m + 1) := ⟨_, rfl⟩
    have hCV := C_tk (Kd.R_reads' hOV).2.2 (m := m + 1) (by rw [hLV]; exact Nat.le_succ _)
    have hV0v : val V0 = N2 * 2 ^ s := by rw [hV0, val_take_full (by rw [hVV]; exact HF.out), hVV]
    have hV0l : V0.length = m + 1 := by rw [hV0, List.length_take, hLV]; omega
    have hV0d : Dg V0 := by rw [hV0]; exact dg_take hDV _
    rw [← hV0] at hCV
    have hn12 : m + 1 ≤ n1 := by rw [HL1.out, HL2.out]; exact words_len_mono hge
    have HV0 := Aside0.mk (And.intro hV0v (And.intro hV0l hV0d))
    have HU := Aside0.mk (And.intro hOU (And.intro hDU (And.intro hLU hVU)))
    have HCV := Aside0.mk hCV
    have HNE := Aside0.mk hne1
    have HBU := Aside0.mk hbu
    have HLU := Aside0.mk (And.intro hlu hlv)
    have HBW := Aside0.mk hbel
    have hcu := (Kd.R_reads' hOU).2.1
    clear hV0 hV0v hV0l hV0d hOU hDU hLU hVU hOV hDV hLV hVV hcv hbel hCV hne1 hbu hbv hlu hlv
    generalize hn : m + 1 = n at *
    have hmn : n - 1 = m := by omega
    have HMN := Aside0.mk hn
    obtain ⟨K, hK⟩ : ∃ K, K = n1 - n + 1 := ⟨_, rfl⟩
    have hKi : (n1 : Int) - n + 1 = (K : Int) := by omega
    have HKK := Aside0.mk hK
    have hK0 : 0 < K := by omega
    have hKm : K ≤ 2000 := by omega
    clear hn hmn hK
    go_wp2_with (refine mk_u32 (.tmp 77) (.tmp 77) rfl rfl rfl _ rfl rfl ?m1 ?m2 ?_)
    case m1 => omega
    case m2 => omega
    intro v5 w7 ho hb3
    obtain ⟨gq, cq, rfl, hgq1, hgq2⟩ := ho.form (by simp; omega)
    rw [List.length_replicate] at ho ⊢
    have HO7 := Aside0.mk ho
    have HB7 := Aside0.mk hb3
    have HGQ := Aside0.mk (And.intro hgq1 hgq2)
    clear ho hb3 hgq1 hgq2
    go_wp2_with fail
    clear hKi
    go_loopg [13] K (fun k v13 w' => ∃ (jj : Nat) (i : Int) (U Q : List Int), v13 = .int .i64 i ∧ i = (jj : Int) - 1 ∧ jj ≤ k ∧ jj ≤ K ∧ Aside0 (Q.length = K ∧ Dg Q) ∧ Aside0 (U.length = n1 + 1 ∧ Dg U) ∧ Aside0 (N1 * 2 ^ s = 4294967296 ^ jj * val (Q.drop jj) * (N2 * 2 ^ s) + val U ∧ val (U.drop jj) < N2 * 2 ^ s) ∧ Aside0 (Ow w' w6.heap.size (.slice (some ⟨gu, 0, none⟩) (n1 + 1) cu) U) ∧ Aside0 (Ow w' wc.heap.size (.slice (some ⟨gq, 0, none⟩) K cq) Q) ∧ Aside0 ((Kd.int .u32).C w' (some ⟨gv, 0, none⟩) n V0) ∧ Aside0 (Below w6.heap.size w6 w'))
    case atStart =>
      refine ⟨K, _, U, _, rfl, rfl, Nat.le_refl _, Nat.le_refl _, ⟨⟨List.length_replicate, dg_replicate _⟩⟩, ⟨⟨HU.out.2.2.1, HU.out.2.1⟩⟩, ⟨⟨?_, ?_⟩⟩, ⟨HU.out.1.below HB7.out⟩, HO7, ⟨Kd.C_below HCV.out HB7.out⟩, ⟨HBW.out.trans (HB7.out.mono HBW.out.size)⟩⟩
      · rw [List.drop_of_length_le (by rw [List.length_replicate]; exact Nat.le_refl _), HU.out.2.2.2]; simp [val]
      · refine start_lt (m := m) (by rw [HU.out.2.2.1]; have := HKK.out; omega) HU.out.2.2.2 ?_ ?_
        · have := words_lt N1
          rwa [← HL1.out, show n1 = K + m by have := HKK.out; have := HMN.out; omega] at this
        · have := words_ge hne
          rwa [← HL2.out, show n - 1 = m by have := HMN.out; omega] at this
    case round =>
      clear HO7 HU HCV
      obtain ⟨jj, i, U, Q, rfl, hi, hk, hjK, HQ, HU, HI, HOU, HOQ, HCV, HB8⟩ := hrel
      cases jj with
      | zero =>
        obtain rfl : i = -1 := by omega
        have hdn := div_done hne (by have := HI.out.1; rwa [Nat.pow_zero, Nat.one_mul] at this) (by have := HI.out.2; exact this)
        rw [List.drop_zero] at hdn
        have HDN := Aside0.mk hdn
        clear hi hdn
        go_wp2_with (refine mk_u32 (.tmp 151) (.tmp 151) rfl rfl rfl _ rfl rfl ?m3 ?m4 ?_)
        case m3 => omega
        case m4 => omega
        intro v6 w8 ho hb3
        obtain ⟨gr, cr, rfl, hgr1, hgr2⟩ := ho.form (by simp; omega)
        rw [List.length_replicate] at ho ⊢
        have HOR := Aside0.mk ho
        have HB3 := Aside0.mk hb3
        have HGR := Aside0.mk (And.intro hgr1 hgr2)
        clear ho hb3 hgr1 hgr2
        go_wp2_with fail
        obtain ⟨wo, hwo⟩ : ∃ wo, wo = wr := ⟨_, rfl⟩
        rw [← hwo] at HB3 HOR HGR HOU HOQ HCV HB8
        clear hwo
        go_loopg [155] n (fun k v155 w' => ∃ (i : Nat) (O : List Int), v155 = .int .i64 (i : Int) ∧ k + i = n ∧ Aside0 (O.length = n) ∧ Aside0 (Dg O) ∧ Aside0 (val (O.take i) + 4294967296 ^ i * (val (U.drop i) / 2 ^ s) = val U / 2 ^ s) ∧ Aside0 (Ow w' wo.heap.size (.slice (some ⟨gr, 0, none⟩) n cr) O) ∧ Aside0 (Below wo.heap.size wo w'))
        case atStart => exact ⟨0, _, rfl, rfl, ⟨List.length_replicate⟩, ⟨dg_replicate _⟩, ⟨by simp [val]⟩, HOR, HB3⟩
        case round =>
          clear HOR HB3
          obtain ⟨i, O, rfl, hki, HOL, HOD, HV, HOR, HB3⟩ := hrel
          have HQQ := Aside0.mk hki
          by_cases hlt : i < n
          · obtain ⟨X, HXX, hx, _⟩ := (HOU.out.below HB3.out).cell i (by omega)
            obtain ⟨Y, HYY, hy, _⟩ := (HOU.out.below HB3.out).cell (i + 1) (by omega)
            obtain ⟨Z, HZZ, ho1, ho2⟩ := HOR.out.cell i hlt
            have DX := Aside0.mk (HXX.out ▸ dg_getD HU.out.2 i : 0 ≤ X ∧ X < 4294967296)
            have DY := Aside0.mk (HYY.out ▸ dg_getD HU.out.2 (i + 1) : 0 ≤ Y ∧ Y < 4294967296)
            obtain ⟨x, rfl⟩ := Int.eq_ofNat_of_zero_le DX.out.1
            obtain ⟨y, rfl⟩ := Int.eq_ofNat_of_zero_le DY.out.1
            have HST := Aside0.mk (shr_step U O i s x y HS.out (by have := HOL.out; omega) HXX.out HYY.out (by have := DX.out; omega) HV.out)
            obtain ⟨T, hT⟩ : ∃ T, T = x + 4294967296 * y := ⟨_, rfl⟩
            have hw1 : IntKind.u64.wrap (x : Int) = x := by have := DX.out; rw [IntKind.wrap_u64]; omega
            have hw2 : IntKind.u64.wrap (y : Int) = y := by have := DY.out; rw [IntKind.wrap_u64]; omega
            have hw3 : IntKind.u64.wrap ((y : Int) * 4294967296) = (y : Int) * 4294967296 := by have := DY.out; rw [IntKind.wrap_u64]; omega
            have hw4 : bits .or .u64 ((y : Int) * 4294967296) (x : Int) = (T : Int) := by
              have h1 := DX.out
              have h2 := DY.out
              have := u64_or_high (a := y) (b := x) (s := 32) (by omega) (by omega)
              rw [show ((2 ^ 32 * y : Nat) : Int) = (y : Int) * 4294967296 by omega] at this
              rw [this]; omega
            have hw6 : IntKind.i64.wrap ((i : Int) + 1) = ((i + 1 : Nat) : Int) := by rw [IntKind.wrap_i64]; omega
            obtain ⟨R, hR⟩ : ∃ R : Nat, R = T / 2 ^ s % 4294967296 := ⟨_, rfl⟩
            have hw5 : (T : Int) / 2 ^ s % 4294967296 = (R : Int) := by rw [hR]; simp
            rw [← hT, ← hR] at HST
            have HRB := Aside0.mk (show R < 4294967296 by omega)
            clear hT hR hki
            go_wp2_with fail
            go_region
            go_wp2_with fail
            go_roundg (gk - 1)
            case measure => have := HQQ.out; omega
            case rel => exact ⟨i + 1, O.set i (R : Int), by go_num, by have := HQQ.out; omega, ⟨by rw [List.length_set]; exact HOL.out⟩, ⟨dg_set HOD.out _ _ (by have := HRB.out; omega)⟩, ⟨HST.out⟩, ⟨(HOR.out.put i _).drew⟩, ⟨(HB3.out.setCell HGR.out.1 _).drew⟩⟩
          · obtain rfl : i = n := by omega
            clear hlt hki
            have HVR := Aside0.mk (show val O = N1 % N2 by
              have h1 := HV.out
              have h2 : val (U.drop i) = 0 := val_drop_zero (by have h3 := HI.out.2; rw [List.drop_zero] at h3; exact Nat.lt_trans h3 HF.out)
              rw [List.take_of_length_le (l := O) (by rw [HOL.out]; exact Nat.le_refl _), h2, Nat.zero_div, Nat.mul_zero, Nat.add_zero] at h1
              rw [h1, HDN.out.2])
            go_wp2_with fail
            refine (trim_any _ _ Q HQ.out.2 (HOQ.out.below HB3.out).reads).mono ?_
            rintro e w9 ⟨v9, rfl, hr9, hb9⟩
            have HR9 := Aside0.mk hr9
            have HB9 := Aside0.mk hb9
            clear hr9 hb9
            go_wp2_with fail
            refine (trim_any _ _ O HOD.out (HOR.out.below HB9.out).reads).mono ?_
            rintro e w10 ⟨v10, rfl, hr10, hb10⟩
            have HR10 := Aside0.mk hr10
            have HR11 := Aside0.mk (HR9.out.below hb10)
            have HB10 := Aside0.mk hb10
            clear hr10 hb10
            rw [HVR.out] at HR10
            rw [HDN.out.1] at HR11
            have HBF := Aside0.mk (show Below w.heap.size w w10 from (((HB5.out.trans (HB8.out.mono HB5.out.size)).trans (HB3.out.mono (Nat.le_trans HB5.out.size HB8.out.size))).trans (HB9.out.mono (Nat.le_trans (Nat.le_trans HB5.out.size HB8.out.size) HB3.out.size))).trans (HB10.out.mono (Nat.le_trans (Nat.le_trans (Nat.le_trans HB5.out.size HB8.out.size) HB3.out.size) HB9.out.size)))
            go_wp2_with fail
            exact bodyPost_ret (v := .tuple #[v9, v10, .int .i64 0]) (by simp [results, Tryz.results86, go_sem]) rfl ⟨v9, v10, rfl, HR11.out, HR10.out, HBF.out⟩
      | succ t =>
        obtain rfl : i = (t : Int) := by omega
        obtain ⟨p, hp⟩ : ∃ p, m = p + 1 := ⟨m - 1, by have := HMN.out; omega⟩
        obtain ⟨a2, ha2⟩ : ∃ a, a = t + n := ⟨_, rfl⟩
        obtain ⟨a1, ha1⟩ : ∃ a, a + 1 = t + n := ⟨t + n - 1, by omega⟩
        obtain ⟨a0, ha0⟩ : ∃ a, a + 2 = t + n := ⟨t + n - 2, by omega⟩
        have hn1 : a2 < n1 + 1 := by have := HKK.out; omega
        have hr1 : IntKind.i64.wrap ((t : Int) + n) = (a2 : Int) := by rw [IntKind.wrap_i64]; omega
        have hr2 : IntKind.i64.wrap ((a2 : Int) - 1) = (a1 : Int) := by rw [IntKind.wrap_i64]; omega
        have hr3 : IntKind.i64.wrap ((a2 : Int) - 2) = (a0 : Int) := by rw [IntKind.wrap_i64]; omega
        have hr4 : IntKind.i64.wrap ((n : Int) - 1) = (m : Int) := by have := HMN.out; rw [IntKind.wrap_i64]; omega
        have hr5 : IntKind.i64.wrap ((n : Int) - 2) = (p : Int) := by have := HMN.out; rw [IntKind.wrap_i64]; omega
        obtain ⟨Z2, HZ2, hz2, _⟩ := HOU.out.cell a2 (by omega)
        obtain ⟨Z1, HZ1, hz1, _⟩ := HOU.out.cell a1 (by omega)
        obtain ⟨Z0, HZ0, hz0, _⟩ := HOU.out.cell a0 (by omega)
        obtain ⟨ad1, Y1, he1, HY1, hy1⟩ := C_at HCV.out m (by have := HMN.out; omega)
        obtain ⟨ad0, Y0, he0, HY0, hy0⟩ := C_at HCV.out p (by have := HMN.out; omega)
        injection he1 with he1
        injection he0 with he0
        subst he1 he0
        rw [add_plain] at hy1 hy0
        have D2 := Aside0.mk (HZ2.out ▸ dg_getD HU.out.2 a2 : 0 ≤ Z2 ∧ Z2 < 4294967296)
        have D1 := Aside0.mk (HZ1.out ▸ dg_getD HU.out.2 a1 : 0 ≤ Z1 ∧ Z1 < 4294967296)
        have D0 := Aside0.mk (HZ0.out ▸ dg_getD HU.out.2 a0 : 0 ≤ Z0 ∧ Z0 < 4294967296)
        have E1 := Aside0.mk (HY1.out ▸ dg_getD HV0.out.2.2 m : 0 ≤ Y1 ∧ Y1 < 4294967296)
        have E0 := Aside0.mk (HY0.out ▸ dg_getD HV0.out.2.2 p : 0 ≤ Y0 ∧ Y0 < 4294967296)
        obtain ⟨z2, rfl⟩ := Int.eq_ofNat_of_zero_le D2.out.1
        obtain ⟨z1, rfl⟩ := Int.eq_ofNat_of_zero_le D1.out.1
        obtain ⟨z0, rfl⟩ := Int.eq_ofNat_of_zero_le D0.out.1
        obtain ⟨y1, rfl⟩ := Int.eq_ofNat_of_zero_le E1.out.1
        obtain ⟨y0, rfl⟩ := Int.eq_ofNat_of_zero_le E0.out.1
        have HA := Aside0.mk (And.intro hp (And.intro ha2 (And.intro ha1 ha0)))
        have hm1 : m < n := by have := HMN.out; omega
        have hp1 : p < n := by have := HMN.out; omega
        have ha1n : a1 < n1 + 1 := by omega
        have ha0n : a0 < n1 + 1 := by omega
        clear hi hp ha2 ha1 ha0
        go_wp2_with fail
        go_quiet ((go_at_call 138; refine Calls.quiet_of (guess_any z2 z1 z0 y1 y0 _ ?_ ?_ ?_ ?_ ?_); (have := D2.out; omega); (have := D1.out; omega); (have := D0.out; omega); (have := E1.out; omega); (have := E0.out; omega)))
        have hW := window_lt HU.out.2 (by have := HU.out.1; have := HKK.out; omega) HI.out.2
        have hVp : 0 < N2 * 2 ^ s := Nat.mul_pos (Nat.pos_of_ne_zero hne) (Nat.two_pow_pos s)
        have hWn : val (U.drop t) < 4294967296 ^ (n + 1) := by
          rw [Nat.pow_succ, Nat.mul_comm]
          exact Nat.lt_of_lt_of_le hW (Nat.mul_le_mul_left _ (Nat.le_of_lt HF.out))
        have hUl : (U.drop t).length = n1 + 1 - t := by rw [List.length_drop, HU.out.1]
        have hUt : (U.take t).length = t := by rw [List.length_take, HU.out.1]; have := HA.out; omega
        have hgd := digit_le (good_gF (u2 := z2) (u1 := z1) (u0 := z0) (v1 := y1) (v0 := y0) (by have := E1.out; omega) (by have := D1.out; omega) (by have := D0.out; omega)) hVp hW (p := 4294967296 ^ p)
          (top3 (U.drop t) p (dg_drop HU.out.2 t) (by have := HA.out; omega) (by have := HA.out; have := HMN.out; rwa [show p + 3 = n + 1 by omega]) z2 z1 z0 (by rw [← HZ2.out, List.getD_eq_getElem?_getD, List.getElem?_drop, ← List.getD_eq_getElem?_getD]; congr 1; have := HA.out; have := HMN.out; omega) (by rw [← HZ1.out, List.getD_eq_getElem?_getD, List.getElem?_drop, ← List.getD_eq_getElem?_getD]; congr 1; have := HA.out; have := HMN.out; omega) (by rw [← HZ0.out, List.getD_eq_getElem?_getD, List.getElem?_drop, ← List.getD_eq_getElem?_getD]; congr 1; have := HA.out; have := HMN.out; omega))
          (by have := top2_ge V0 p (by have := HV0.out.2.1; omega) y1 y0 (by have h := HY1.out; rwa [HA.out.1] at h) HY0.out; rwa [HV0.out.1] at this)
        have hq1 := (good_gF (u2 := z2) (u1 := z1) (u0 := z0) (v1 := y1) (v0 := y0) (by have := E1.out; omega) (by have := D1.out; omega) (by have := D0.out; omega)).1
        obtain ⟨q, hqe⟩ : ∃ q, q = gF z2 z1 z0 y1 y0 := ⟨_, rfl⟩
        rw [← hqe] at hgd hq1 ⊢
        have HGD := Aside0.mk (And.intro hgd hq1)
        have HWW := Aside0.mk (And.intro hW (And.intro hVp (And.intro hWn (And.intro hUl hUt))))
        have hta : t ≤ a2 := by have := HA.out.2.1; omega
        have htc : t < cu := by omega
        have hac : a2 + 1 ≤ cu := by omega
        clear hqe hgd hW hVp hWn hUl hUt hq1 hz0 hz1 hz2 hy0 hy1 hr3 hr2 hr4 hr5
        go_wp2_with fail
        rw [show a2 + 1 - t = n + 1 by have := HA.out.2.1; omega]
        have HOP := Aside0.mk (show Ow (wr.drewN nq) w6.heap.size (.slice (some ⟨gu, 0, none⟩) (n1 + 1) cu) (U.take t ++ U.drop t) by rw [List.take_append_drop]; exact Kd.R_drewN HOU.out nq)
        have HOQ2 := Aside0.mk (show Ow (wr.drewN nq) wc.heap.size (.slice (some ⟨gq, 0, none⟩) K cq) Q from Kd.R_drewN HOQ.out nq)
        have HCV2 := Aside0.mk (Kd.C_drewN HCV.out nq)
        have HB82 := Aside0.mk (pw_below_drewN HB8.out nq)
        clear HOU HOQ HCV HB8
        obtain ⟨wo, hwo⟩ : ∃ wo, wo = wr.drewN nq := ⟨_, rfl⟩
        rw [← hwo] at HOP HOQ2 HCV2 HB82 ⊢
        clear hwo
        have htk := take_any wo w6.heap.size gu (n1 + 1) cu (cu - t) t n cv (some ⟨gv, 0, none⟩) (U.take t) (U.drop t) V0 (q : Int) HWW.out.2.2.2.2 (by have := HWW.out.2.2.2.1; have := HKK.out; omega) HV0.out.2.1 (dg_drop HU.out.2 t) HV0.out.2.2 HOP.out HCV2.out (off_some (Ne.symm HNE.out)) (by have := HGD.out.2; omega) (by omega)
        go_fit htk
        rw [Int.toNat_natCast, HV0.out.1]
        rintro e w8 ⟨U1, rfl, hl1, hd1, hdr1, hv1, hO1, hon1⟩
        rw [val_take_full HWW.out.2.2.1] at hv1 ⊢
        have HT := Aside0.mk (And.intro hl1 (And.intro hd1 (And.intro hdr1 (And.intro hv1 (And.intro hO1 hon1)))))
        clear hl1 hd1 hdr1 hv1 hO1 hon1 HOP
        obtain ⟨b0, hb0⟩ : ∃ b, b = decide (val (U.drop t) < q * (N2 * 2 ^ s)) := ⟨_, rfl⟩
        rw [← hb0]
        have HB0 := Aside0.mk hb0
        clear hb0
        go_wp2_with fail
        obtain ⟨g0, hg0⟩ : ∃ g, g = gk := ⟨_, rfl⟩
        have HG0 := Aside0.mk (And.intro hg0 hk)
        clear hk hg0
        go_loopg [14, 15] q (fun k v14 v15 w' => ∃ (d : Nat) (b : Bool) (U2 : List Int), v14 = .int .u64 (d : Int) ∧ v15 = .bool b ∧ d ≤ k ∧ Aside0 (val (U.drop t) / (N2 * 2 ^ s) ≤ d ∧ d < 4294967296) ∧ Aside0 (b = decide (val (U.drop t) < d * (N2 * 2 ^ s))) ∧ Aside0 (U2.length = (U.drop t).length) ∧ Aside0 (Dg U2) ∧ Aside0 (U2.drop (n + 1) = (U.drop t).drop (n + 1)) ∧ Aside0 (val (U2.take (n + 1)) + d * (N2 * 2 ^ s) = val (U.drop t) + (if val (U.drop t) < d * (N2 * 2 ^ s) then 4294967296 ^ (n + 1) else 0)) ∧ Aside0 (Ow w' w6.heap.size (.slice (some ⟨gu, 0, none⟩) (n1 + 1) cu) (U.take t ++ U2)) ∧ Aside0 (Only gu wo w'))
        case atStart => exact ⟨q, b0, U1, rfl, rfl, Nat.le_refl _, HGD, HB0, ⟨HT.out.1⟩, ⟨HT.out.2.1⟩, ⟨HT.out.2.2.1⟩, ⟨HT.out.2.2.2.1⟩, ⟨HT.out.2.2.2.2.1⟩, ⟨HT.out.2.2.2.2.2⟩⟩
        case round =>
          clear HT HGD HB0
          obtain ⟨d, b, U2, rfl, rfl, hdk, HGD, HB0, HUL2, HUD2, HDR2, HV2, HO2, HON⟩ := hrel
          cases b with
          | true =>
            have hbt : val (U.drop t) < d * (N2 * 2 ^ s) := of_decide_eq_true HB0.out.symm
            have hv := HV2.out
            rw [if_pos hbt] at hv
            have hls := div_less HGD.out.2 HF.out hbt hv
            obtain ⟨d', hd'⟩ : ∃ d', d = d' + 1 := ⟨d - 1, by have := hls.2.2; omega⟩
            have hwd : IntKind.u64.wrap ((d : Int) - 1) = (d' : Int) := by have := HGD.out.2; rw [IntKind.wrap_u64]; omega
            have HLS := Aside0.mk (And.intro hls (And.intro hd' (And.intro hbt hdk)))
            have hgv := give_any wr w6.heap.size gu (n1 + 1) cu (cu - t) t n cv (some ⟨gv, 0, none⟩) (U.take t) U2 V0 HWW.out.2.2.2.2 (by have := HUL2.out; have := HWW.out.2.2.2.1; have := HKK.out; omega) HV0.out.2.1 HUD2.out HV0.out.2.2 HO2.out (C_off HCV2.out (off_some (Ne.symm HNE.out)) HON.out.2) (off_some (Ne.symm HNE.out)) (by omega)
            rw [HV0.out.1] at hgv
            have HGV := Aside0.mk hgv
            clear hbt hv hls hd' hgv hdk
            go_wp2_with (go_at_call 140; rw [show a2 + 1 - t = n + 1 by have := HA.out.2.1; omega]; refine HGV.out.mono ?_; rintro e w9 ⟨U3, rfl, hl3, hd3, hdr3, hv3, hO3, hon3⟩; obtain ⟨Z, hZ, hz, _⟩ := hO3.cell a2 (by omega); have HT3 := Aside0.mk (And.intro hl3 (And.intro hd3 (And.intro hdr3 (And.intro hv3 (And.intro hO3 hon3))))); clear hl3 hd3 hdr3 hv3 hO3 hon3)
            have hZ3 : U3.getD n 0 = Z := by
              rw [← hZ.out, HA.out.2.1, ap_getD HWW.out.2.2.2.2]
            have hln3 : n < U3.length := by rw [HT3.out.1, HUL2.out, HWW.out.2.2.2.1]; have := HKK.out; omega
            have htw := top_word HT3.out.2.1 hln3 Z hZ3
            have hv3 := HT3.out.2.2.2.1
            have hls := HLS.out.1
            have hd' := HLS.out.2.1
            rw [hd', Nat.add_sub_cancel] at hls
            have hb' : (Z != 0) = decide (val (U.drop t) < d' * (N2 * 2 ^ s)) := by
              by_cases h : val (U.drop t) < d' * (N2 * 2 ^ s)
              · rw [decide_eq_true h, bne_iff_ne]
                exact htw.1 (by rw [hv3]; exact (hls.1 h).2)
              · rw [decide_eq_false h, bne_eq_false_iff_eq]
                exact htw.2 (by rw [hv3]; exact Nat.lt_of_lt_of_le (hls.2.1 (by omega)).2 (Nat.le_of_lt HF.out))
            have hvv : val (U3.take (n + 1)) + d' * (N2 * 2 ^ s) = val (U.drop t) + (if val (U.drop t) < d' * (N2 * 2 ^ s) then 4294967296 ^ (n + 1) else 0) := by
              by_cases h : val (U.drop t) < d' * (N2 * 2 ^ s)
              · rw [if_pos h, hv3]; exact (hls.1 h).1
              · rw [if_neg h, hv3, Nat.add_zero]; exact (hls.2.1 (by omega)).1
            have hgd : val (U.drop t) / (N2 * 2 ^ s) ≤ d' := by
              have := HLS.out.2.2.1
              rw [hd'] at this
              exact Nat.le_of_lt_succ ((Nat.div_lt_iff_lt_mul HWW.out.2.1).2 this)
            have HE := Aside0.mk (And.intro hb' (And.intro hvv hgd))
            clear hb' hvv hgd htw hln3 hZ3 hv3 hls
            go_roundg d'
            case measure => have := HLS.out.2.2.2; omega
            case rel => exact ⟨d', (Z != 0), U3, rfl, rfl, Nat.le_refl _, ⟨⟨HE.out.2.2, by have := HGD.out.2; omega⟩⟩, ⟨HE.out.1⟩, ⟨HT3.out.1.trans HUL2.out⟩, ⟨HT3.out.2.1⟩, ⟨HT3.out.2.2.1.trans HDR2.out⟩, ⟨HE.out.2.1⟩, ⟨HT3.out.2.2.2.2.1⟩, ⟨HON.out.trans HT3.out.2.2.2.2.2⟩⟩
          | false =>
            have hbf : ¬ val (U.drop t) < d * (N2 * 2 ^ s) := of_decide_eq_false HB0.out.symm
            have hgqu : gq ≠ gu := by have := HGQ.out.1; have := HLU.out.1; omega
            have hgqv : gv ≠ gq := by have := HGQ.out.1; have := HLU.out.2; omega
            have HER := Aside0.mk (div_end_round (NA := N1 * 2 ^ s) (n := n) (d := d) (U := U) (U2 := U2) (Q := Q) (by have := HU.out.1; have := HKK.out; omega) HF.out HWW.out.2.1 HI.out.2 HU.out.2 (by have := HU.out.1; have := HKK.out; omega) HGD.out.2 HGD.out.1 hbf HV2.out HDR2.out HUL2.out (by rw [HUL2.out, HWW.out.2.2.2.1]; have := HKK.out; omega) (by have := HQ.out.1; omega) HI.out.1)
            have HOQ3 := Aside0.mk (HOQ2.out.only HON.out hgqu)
            have HGX := Aside0.mk (And.intro hgqu hgqv)
            obtain ⟨Zq, _, hq1, hq2⟩ := HOQ3.out.cell t (by omega)
            have hdm : (d : Int) % 4294967296 = d := by have := HGD.out.2; omega
            clear hbf hgqu hgqv
            go_wp2_with fail
            go_roundg t
            case measure => have := HG0.out; omega
            case rel =>
              refine ⟨t, _, U.take t ++ U2, Q.set t (d : Int), rfl, rfl, Nat.le_refl _, by omega, ⟨⟨by rw [List.length_set]; exact HQ.out.1, dg_set HQ.out.2 _ _ (by have := HGD.out.2; omega)⟩⟩, ⟨⟨by rw [List.length_append, HWW.out.2.2.2.2, HUL2.out, HWW.out.2.2.2.1]; have := HKK.out; omega, dg_append.2 ⟨dg_take HU.out.2 t, HUD2.out⟩⟩⟩, HER, ⟨HO2.out.only (Only.setOther _ _ _) (Ne.symm HGX.out.1)⟩, ⟨HOQ3.out.put t _⟩, ⟨C_off (C_off HCV2.out (off_some (Ne.symm HNE.out)) HON.out.2) (off_some HGX.out.2) (Only.setOther _ _ _).2⟩, ⟨?_⟩⟩
              exact ((HB82.out.trans (HON.out.1.mono HBU.out)).setCell (Nat.le_trans HBW.out.size HGQ.out.1) _)

end Go.Proofs.YthknbknmlnnhcaaGreatDoor
