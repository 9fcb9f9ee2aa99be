/- Walks: bobbinref2.Sub, Mul. -/
import Derived.Test.YthknbknmlnnhcaaGreatDoorWk
namespace Go.Proofs.YthknbknmlnnhcaaGreatDoor
open Go.RowKit Go.Proofs.YthknbknmlnnhcaaGreatDoorW.PrintWords Bob
set_option linter.unusedVariables false
set_option linter.unusedSimpArgs false

theorem sub_app (x y O : List Int) (i : Nat) (c X Y T : Int) (hx : Dg x) (hy : Dg y) (hi : O.length = i) (hc : 0 ≤ c ∧ c ≤ 1) (hX : x.getD i 0 = X) (hY : y.getD i 0 = Y)
    (hT : T = (X - c - Y) % 18446744073709551616)
    (h : val O + val (y.take i) = val (x.take i) + 4294967296 ^ i * c.toNat) :
    val (O ++ [T % 4294967296]) + val (y.take (i + 1)) = val (x.take (i + 1)) + 4294967296 ^ (i + 1) * (T / 9223372036854775808).toNat ∧
    0 ≤ T / 9223372036854775808 ∧ T / 9223372036854775808 ≤ 1 := by
  have h1 := dg_getD hx i
  have h2 := dg_getD hy i
  rw [val_append, val_take', val_take', Nat.pow_succ, hi, hX, hY]
  rw [hX] at h1
  rw [hY] at h2
  simp only [val, Nat.mul_zero, Nat.add_zero]
  generalize 4294967296 ^ i = p at *
  refine ⟨?_, by omega, by omega⟩
  have e : (T % 4294967296).toNat + Y.toNat + c.toNat = X.toNat + 4294967296 * (T / 9223372036854775808).toNat := by omega
  generalize (T % 4294967296).toNat = u at *
  generalize (T / 9223372036854775808).toNat = v at *
  have e2 : p * (u + Y.toNat + c.toNat) = p * (X.toNat + 4294967296 * v) := by rw [e]
  grind

set_option maxRecDepth 100000 in
set_option maxHeartbeats 800000 in
theorem rsub_any (w : World) (v1 v2 : Value) (N1 N2 : Nat) (h1 : Rd w v1 (words N1)) (h2 : Rd w v2 (words N2)) (hk1 : (words N1).length ≤ 100000) (hle : N2 ≤ N1) :
    Calls Tryz.prog 153 #[v1, v2] w fun e w' => ∃ v', e = .returned (.tuple #[v', .int .i64 0]) ∧ Ow w' w.heap.size v' (words (N1 - N2)) ∧ Below w.heap.size w w' := by
  have hc0 : decide (cmpN N1 N2 < 0) = false := by
    rw [cmpN, if_neg (by omega)]
    split <;> rfl
  have HLE := Aside0.mk hle
  obtain ⟨n1, A1, c1, rfl, HL1, hc1, hm1, HC1⟩ := h1.elim
  have hb1 : n1 ≤ 100000 := HL1.out ▸ hk1
  clear hm1 hle hk1
  go_enter Tryz.func153, Tryz.ntmps153
  go_wp2_with fail
  refine (rcompare_any _ _ _ N1 N2 h1 h2).mono ?_
  rintro e w1 ⟨rfl, hb⟩
  have HB1 := Aside0.mk hb
  have h2' := Rd.below h2 hb
  clear hb h1 h2
  go_wp2_with fail
  refine (rtrimmed_num _ _ N2 h2').mono ?_
  intro e w2 hr2
  obtain ⟨n2, A2, c2, rfl, HL2, hc2, hm2, HC2, HB2⟩ := hr2.elim
  have HB0 := Aside0.mk (HB1.out.trans (HB2.out.mono HB1.out.size))
  have HC1' := Aside0.mk (Kd.C_below HC1.out HB0.out)
  have hn : n2 ≤ n1 := by rw [HL1.out, HL2.out]; exact words_len_mono HLE.out
  clear hr2 h2' hm2 HB1 HB2 HC1
  go_wp2_with fail
  go_loopg [6, 7, 8] n1 (fun k v5 v6 v7 w' => ∃ (i : Nat) (cy : Int) (O : List Int), v7 = .int .i64 (i : Int) ∧ v6 = .int .u64 cy ∧ k + i = n1 ∧ Aside0 (O.length = i) ∧ Aside0 (Dg O) ∧ Aside0 (0 ≤ cy ∧ cy ≤ 1) ∧ Aside0 (val O + val ((words N2).take i) = val ((words N1).take i) + 4294967296 ^ i * cy.toNat) ∧ Aside0 (Ow w' w2.heap.size v5 O) ∧ Aside0 (Below w2.heap.size w2 w'))
  case atStart => exact ⟨0, 0, _, rfl, rfl, rfl, ⟨rfl⟩, ⟨dg_nil⟩, ⟨by decide⟩, ⟨by simp [val]⟩, ⟨Ow.nil _ _⟩, ⟨Below.refl _ _⟩⟩
  case round =>
    obtain ⟨i, cy, O, rfl, rfl, hki, HL, HD, HCY, HV, HO, HB⟩ := hrel
    have HQ := Aside0.mk hki
    have HM := Aside0.mk hb1
    clear hki
    by_cases hlt1 : i < n1
    · obtain ⟨ad1, X, rfl, HX, hx⟩ := C_at (Kd.C_below HC1'.out HB.out) i hlt1
      have DX := Aside0.mk (HX.out ▸ dg_getD (dg_words N1) i : 0 ≤ X ∧ X < 4294967296)
      by_cases hlt2 : i < n2
      · obtain ⟨ad2, Y, rfl, HY, hy⟩ := C_at (Kd.C_below HC2.out HB.out) i hlt2
        have DY := Aside0.mk (HY.out ▸ dg_getD (dg_words N2) i : 0 ≤ Y ∧ Y < 4294967296)
        obtain ⟨S, hS⟩ : ∃ S, S = (X - cy) % 18446744073709551616 := ⟨_, rfl⟩
        obtain ⟨T, hT⟩ : ∃ T, T = (X - cy - Y) % 18446744073709551616 := ⟨_, rfl⟩
        have HS := Aside0.mk (sub_app (words N1) (words N2) O i cy X Y T (dg_words _) (dg_words _) HL.out HCY.out HX.out HY.out hT HV.out)
        have hw1 : IntKind.u64.wrap X = X := by have := DX.out; rw [IntKind.wrap_u64]; omega
        have hw2 : IntKind.u64.wrap Y = Y := by have := DY.out; rw [IntKind.wrap_u64]; omega
        have hw3 : IntKind.u64.wrap (X - cy) = S := by rw [IntKind.wrap_u64, hS]
        have hw4 : IntKind.u64.wrap (S - Y) = T := by rw [IntKind.wrap_u64, hT, hS]; omega
        clear hT hS
        go_wp2_with (at_builtin; refine app_one (w0 := w2) (.tmp 40) (.tmp 43) w2.heap.size rfl rfl _ O (T % 4294967296) rfl rfl HO.out HB.out HB.out.size (by have := HL.out; have := HQ.out; have := HM.out; omega) ?_; intro v9 w9 ho9 hb9; have HO9 := Aside0.mk ho9; have HB9 := Aside0.mk hb9; clear ho9 hb9)
        go_roundg (gk - 1)
        case measure => have := HQ.out; omega
        case rel => exact ⟨i + 1, _, O ++ [T % 4294967296], by go_num, rfl, by have := HQ.out; omega, ⟨by rw [List.length_append, HL.out]; rfl⟩, ⟨dg_append.2 ⟨HD.out, dg_cons.2 ⟨by omega, dg_nil⟩⟩⟩, ⟨HS.out.2⟩, ⟨HS.out.1⟩, HO9, HB9⟩
      · obtain ⟨T, hT⟩ : ∃ T, T = (X - cy - 0) % 18446744073709551616 := ⟨_, rfl⟩
        have HS := Aside0.mk (sub_app (words N1) (words N2) O i cy X 0 T (dg_words _) (dg_words _) HL.out HCY.out HX.out (getD_ge (by have := HL2.out; omega)) hT HV.out)
        have hw1 : IntKind.u64.wrap X = X := by have := DX.out; rw [IntKind.wrap_u64]; omega
        have hw3 : IntKind.u64.wrap (X - cy) = T := by rw [IntKind.wrap_u64, hT]; omega
        clear hT
        go_wp2_with (at_builtin; refine app_one (w0 := w2) (.tmp 40) (.tmp 43) w2.heap.size rfl rfl _ O (T % 4294967296) rfl rfl HO.out HB.out HB.out.size (by have := HL.out; have := HQ.out; have := HM.out; omega) ?_; intro v9 w9 ho9 hb9; have HO9 := Aside0.mk ho9; have HB9 := Aside0.mk hb9; clear ho9 hb9)
        go_roundg (gk - 1)
        case measure => have := HQ.out; omega
        case rel => exact ⟨i + 1, _, O ++ [T % 4294967296], by go_num, rfl, by have := HQ.out; omega, ⟨by rw [List.length_append, HL.out]; rfl⟩, ⟨dg_append.2 ⟨HD.out, dg_cons.2 ⟨by omega, dg_nil⟩⟩⟩, ⟨HS.out.2⟩, ⟨HS.out.1⟩, HO9, HB9⟩
    · obtain rfl : i = n1 := by have := HQ.out; omega
      have hS : val O = N1 - N2 := by
        have e := HV.out
        rw [List.take_of_length_le (l := words N2) (by have := HL2.out; omega), List.take_of_length_le (l := words N1) (by have := HL1.out; omega), val_words, val_words] at e
        have h3 := val_lt HD.out
        rw [HL.out] at h3
        have h4 := HLE.out
        rcases Nat.eq_zero_or_pos cy.toNat with h | h
        · rw [h] at e; omega
        · have h5 : 4294967296 ^ i * 1 ≤ 4294967296 ^ i * cy.toNat := Nat.mul_le_mul_left _ h
          omega
      have HS := Aside0.mk hS
      clear hS
      go_wp2_with (go_at_call 108; refine (rnorm_own _ _ _ HD.out HO.out.reads (by have := HL.out; have := HQ.out; have := HM.out; omega)).mono ?_; rw [HS.out]; rintro e w10 ⟨v10, rfl, hr10, hb10⟩)
      exact bodyPost_ret (v := .tuple #[v10, .int .i64 0]) (by simp [results, Tryz.results153, go_sem]) rfl ⟨v10, rfl, hr10.lower (Nat.le_trans HB0.out.size HB.out.size), (HB0.out.trans (HB.out.mono HB0.out.size)).trans (hb10.mono (Nat.le_trans HB0.out.size HB.out.size))⟩

set_option maxRecDepth 100000 in
set_option maxHeartbeats 800000 in
theorem rmul_any (w : World) (v1 v2 : Value) (N1 N2 : Nat) (h1 : Rd w v1 (words N1)) (h2 : Rd w v2 (words N2)) (hk1 : (words N1).length ≤ 1000) (hk2 : (words N2).length ≤ 1000) :
    Calls Tryz.prog 91 #[v1, v2] w fun e w' => ∃ v', e = .returned (.tuple #[v', .int .i64 0]) ∧ Rd w' v' (words (N1 * N2)) ∧ Below w.heap.size w w' := by
  have HK := Aside0.mk (And.intro hk1 hk2)
  have HR := Aside0.mk (And.intro h1 h2)
  clear hk1 hk2 h1 h2
  go_enter Tryz.func91, Tryz.ntmps91
  go_wp2_with fail
  refine (rlarge_num _ _ N1 HR.out.1 (by have := HK.out; omega)).mono ?_
  rintro e w1 ⟨rfl, hb1⟩
  have HB1 := Aside0.mk hb1
  clear hb1
  go_wp2_with fail
  refine (rlarge_num _ _ N2 (HR.out.2.below HB1.out) (by have := HK.out; omega)).mono ?_
  rintro e w2 ⟨rfl, hb2⟩
  have HB2 := Aside0.mk hb2
  clear hb2
  go_wp2_with fail
  refine (rtrimmed_num _ _ N1 ((HR.out.1.below HB1.out).below HB2.out)).mono ?_
  intro e w3 hr1
  obtain ⟨n1, A1, c1, rfl, HL1, hc1, hm1, HC1, HB3⟩ := hr1.elim
  clear hr1
  go_wp2_with fail
  refine (rtrimmed_num _ _ N2 (((HR.out.2.below HB1.out).below HB2.out).below HB3.out)).mono ?_
  intro e w4 hr2
  obtain ⟨n2, A2, c2, rfl, HL2, hc2, hm2, HC2, HB4⟩ := hr2.elim
  clear hr2
  have HB := Aside0.mk (((HB1.out.trans (HB2.out.mono HB1.out.size)).trans (HB3.out.mono (Nat.le_trans HB1.out.size HB2.out.size))).trans (HB4.out.mono (Nat.le_trans HB1.out.size (Nat.le_trans HB2.out.size HB3.out.size))))
  have HC := Aside0.mk (Kd.C_below HC1.out HB4.out)
  have hb1 : n1 ≤ 1000 := HL1.out ▸ HK.out.1
  have hb2 : n2 ≤ 1000 := HL2.out ▸ HK.out.2
  clear HC1 HB1 HB2 HB3 HB4 hm1 hm2 HR
  go_wp2_with (refine mk_u32 (.tmp 24) (.tmp 24) rfl rfl rfl _ rfl rfl ?m1 ?m2 ?_)
  case m1 => omega
  case m2 => omega
  intro v5 w5 ho hb3
  have hlen : ((n1 : Int) + n2).toNat = n1 + n2 := by omega
  first | rw [hlen] at ho | skip
  obtain ⟨A5, c5, rfl⟩ := Kd.R_slice ho
  rw [List.length_replicate] at ho ⊢
  have HB5 := Aside0.mk hb3
  have HO := Aside0.mk ho
  clear ho hb3 hlen
  go_wp2_with fail
  go_loopg [7] n1 (fun k v30 w' => ∃ (i : Nat) (O : List Int), v30 = .int .i64 (i : Int) ∧ k + i = n1 ∧ Aside0 (O.length = n1 + n2) ∧ Aside0 (Dg O) ∧ Aside0 (val O = val ((words N1).take i) * N2) ∧ Aside0 (∀ k, i + n2 ≤ k → O.getD k 0 = 0) ∧ Aside0 (Ow w' w4.heap.size (.slice A5 (n1 + n2) c5) O) ∧ Aside0 (Below w4.heap.size w4 w'))
  case atStart => exact ⟨0, _, rfl, rfl, ⟨List.length_replicate⟩, ⟨dg_replicate _⟩, ⟨by simp [val_replicate, val]⟩, ⟨fun k _ => by rw [List.getD_eq_getElem?_getD, List.getElem?_replicate]; split <;> rfl⟩, HO, HB5⟩
  case round =>
    clear HO HB5
    obtain ⟨i, O, rfl, hki, HL, HD, HV, HZ, HO, HB5⟩ := hrel
    have HQ := Aside0.mk hki
    by_cases hlt : i < n1
    · obtain ⟨ad1, X, rfl, HX, hx⟩ := C_at (Kd.C_below HC.out HB5.out) i hlt
      obtain ⟨g, cap, he, hg1, hg2⟩ := HO.out.form (by rw [HL.out]; omega)
      injection he with e1 e2 e3
      subst e1 e3
      have HG := Aside0.mk hg1
      have DX := Aside0.mk (HX.out ▸ dg_getD (dg_words N1) i : 0 ≤ X ∧ X < 4294967296)
      clear hg1 hg2 e2
      go_wp2_with fail
      obtain ⟨wo, rfl⟩ : ∃ wo : World, wo = wr := ⟨_, rfl⟩
      obtain ⟨g0, rfl⟩ : ∃ g0 : Nat, g0 = gk := ⟨_, rfl⟩
      go_loopg [8, 9] n2 (fun k v9 v37 w' => ∃ (j : Nat) (c : Int) (O1 : List Int), v37 = .int .i64 (j : Int) ∧ v9 = .int .u64 c ∧ k + j = n2 ∧ Aside0 (O1.length = n1 + n2) ∧ Aside0 (Dg O1) ∧ Aside0 (0 ≤ c ∧ c < 4294967296) ∧ Aside0 (val O1 + 4294967296 ^ (i + j) * c.toNat = val O + 4294967296 ^ i * (X.toNat * val ((words N2).take j))) ∧ Aside0 (∀ k, i + n2 ≤ k → O1.getD k 0 = 0) ∧ Aside0 (Ow w' w4.heap.size (.slice (some ⟨g, 0, none⟩) (n1 + n2) c5) O1) ∧ Aside0 (Below w4.heap.size w4 w'))
      case atStart => exact ⟨0, 0, O, rfl, rfl, rfl, HL, HD, ⟨by decide⟩, ⟨by simp [val]⟩, HZ, HO, HB5⟩
      case round =>
        clear HO HB5 HL HD HZ hx
        obtain ⟨j, c, O1, rfl, rfl, hkj, HL, HD, HCY, HV1, HZ, HO, HB5⟩ := hrel
        have HQ2 := Aside0.mk hkj
        by_cases hlt2 : j < n2
        · obtain ⟨ad1', X', he1, HX', hx⟩ := C_at (Kd.C_below HC.out HB5.out) i hlt
          injection he1 with he1
          subst he1
          obtain rfl : X' = X := HX'.out.symm.trans HX.out
          obtain ⟨ad2, Y, rfl, HY, hy⟩ := C_at (Kd.C_below HC2.out HB5.out) j hlt2
          obtain ⟨Z, HZZ, ho1, ho2⟩ := HO.out.cell (i + j) (by omega)
          have hs := mul_step (words N2) O1 (val O) X'.toNat i j c Y Z (dg_words _) HD.out (by have := HL.out; omega) (by have := DX.out; omega) HCY.out HY.out HZZ.out HV1.out
          rw [Int.toNat_of_nonneg DX.out.1] at hs
          have DY := Aside0.mk (HY.out ▸ dg_getD (dg_words N2) j : 0 ≤ Y ∧ Y < 4294967296)
          have DZ := Aside0.mk (HZZ.out ▸ dg_getD HD.out (i + j) : 0 ≤ Z ∧ Z < 4294967296)
          obtain ⟨T, hT⟩ : ∃ T, T = c + X' * Y + Z := ⟨_, rfl⟩
          obtain ⟨P, hP⟩ : ∃ P, P = X' * Y := ⟨_, rfl⟩
          obtain ⟨P2, hP2⟩ : ∃ P2, P2 = c + P := ⟨_, rfl⟩
          rw [← hT] at hs
          have HS := Aside0.mk hs
          have hw1 : IntKind.u64.wrap X' = X' := by have := DX.out; rw [IntKind.wrap_u64]; omega
          have hw2 : IntKind.u64.wrap Y = Y := by have := DY.out; rw [IntKind.wrap_u64]; omega
          have hw3 : IntKind.u64.wrap Z = Z := by have := DZ.out; rw [IntKind.wrap_u64]; omega
          have hw4 : IntKind.u64.wrap (X' * Y) = P := by have := DZ.out; rw [IntKind.wrap_u64, hP]; omega
          have hw5 : IntKind.u64.wrap (c + P) = P2 := by have := DZ.out; have := HCY.out; rw [IntKind.wrap_u64, hP2, hP]; omega
          have hw6 : IntKind.u64.wrap (P2 + Z) = T := by have := DZ.out; rw [IntKind.wrap_u64, hT, hP2, hP]; omega
          clear hs hT hP hP2 hkj
          go_wp2_with fail
          go_quiet (fail)
          go_wp2_with fail
          go_roundg (gk - 1)
          case measure => have := HQ2.out; omega
          case rel => exact ⟨j + 1, _, O1.set (i + j) (T % 4294967296), by go_num, rfl, by have := HQ2.out; omega, ⟨by rw [List.length_set]; exact HL.out⟩, ⟨dg_set HD.out _ _ (by omega)⟩, ⟨⟨HS.out.2.1, HS.out.2.2.1⟩⟩, ⟨HS.out.1⟩, ⟨fun k hk => by rw [getD_set _ _ _ _ (by have := HL.out; omega), if_neg (by omega)]; exact HZ.out k hk⟩, ⟨Ow.put (by first | exact HO.out | exact Kd.R_drewN HO.out _) (i + j) _⟩, ⟨(by repeat first | exact HB5.out | apply pw_below_drewN : Below w4.heap.size w4 _).setCell HG.out _⟩⟩
        · obtain rfl : j = n2 := by omega
          clear hlt2 hkj
          obtain ⟨Z, _, ho1, ho2⟩ := HO.out.cell (i + j) (by omega)
          have HR := Aside0.mk (mul_row (words N1) (words N2) O O1 i j c X HX.out HL2.out.symm (by rw [HV.out, val_words]) (HZ.out _ (Nat.le_refl _)) (by have := HL.out; omega) HV1.out)
          have hcm : c % 4294967296 = c := by have := HCY.out; omega
          go_wp2_with fail
          go_roundg (g0 - 1)
          case measure => have := HQ.out; omega
          case rel => exact ⟨i + 1, O1.set (i + j) c, by go_num, by have := HQ.out; omega, ⟨by rw [List.length_set]; exact HL.out⟩, ⟨dg_set HD.out _ _ HCY.out⟩, ⟨by rw [HR.out, val_words]⟩, ⟨fun k hk => by rw [getD_set _ _ _ _ (by have := HL.out; omega), if_neg (by omega)]; exact HZ.out k (by omega)⟩, ⟨HO.out.put (i + j) _⟩, ⟨HB5.out.setCell HG.out _⟩⟩
    · obtain rfl : i = n1 := by omega
      clear hlt hki
      have HV2 := Aside0.mk (show val O = N1 * N2 by rw [HV.out, List.take_of_length_le (by rw [← HL1.out]; exact Nat.le_refl _), val_words])
      have HL3 : Aside0 ((words (N1 * N2)).length ≤ 2000) := by
        refine ⟨?_⟩
        rw [← HV2.out]
        exact Nat.le_trans (words_len_le (val_lt HD.out)) (by rw [HL.out]; omega)
      go_wp2_with (go_at_call 108; refine (rnorm_any _ _ O HD.out HO.out.reads (by rw [HL.out]; omega)).mono ?_; rw [HV2.out]; intro e w9 hr9; obtain ⟨n9, A9, c9, rfl, HL9, hc9, hm9, HC9, HB9⟩ := hr9.elim; have hl9 : n9 ≤ 2000 := (HL9.out ▸ HL3.out); clear hr9)
      exact bodyPost_ret (v := .tuple #[.slice A9 n9 c9, .int .i64 0]) (by simp [results, Tryz.results91, go_sem]) rfl ⟨_, rfl, C_rd HC9.out hc9, (HB.out.trans (HB5.out.mono HB.out.size)).trans (HB9.out.mono (Nat.le_trans HB.out.size HB5.out.size))⟩

end Go.Proofs.YthknbknmlnnhcaaGreatDoor
