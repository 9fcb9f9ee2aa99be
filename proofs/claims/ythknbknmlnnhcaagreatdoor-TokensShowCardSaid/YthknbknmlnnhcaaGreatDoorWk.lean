/- Walks: bobbinref2.Compare, Add, Sub. -/
import Derived.Test.YthknbknmlnnhcaaGreatDoorWj
namespace Go.Proofs.YthknbknmlnnhcaaGreatDoor
open Go.RowKit Go.Proofs.YthknbknmlnnhcaaGreatDoorW.PrintWords Bob
set_option linter.unusedVariables false
set_option linter.unusedSimpArgs false

set_option maxHeartbeats 400000 in
theorem rcompare_any (w : World) (v1 v2 : Value) (N1 N2 : Nat) (h1 : Rd w v1 (words N1)) (h2 : Rd w v2 (words N2)) :
    Calls Tryz.prog 111 #[v1, v2] w fun e w' => e = .returned (.int .i64 (cmpN N1 N2)) ∧ Below w.heap.size w w' := by
  go_enter Tryz.func111, Tryz.ntmps111
  go_wp2_with fail
  refine (rtrimmed_num _ _ N1 h1).mono ?_
  intro e w1 hr1
  obtain ⟨n1, A1, c1, rfl, HL1, hc1, hm1, HC1, HB1⟩ := hr1.elim
  have h2' := Rd.below h2 HB1.out
  clear hr1 h1 h2
  go_wp2_with fail
  refine (rtrimmed_num _ _ N2 h2').mono ?_
  intro e w2 hr2
  obtain ⟨n2, A2, c2, rfl, HL2, hc2, hm2, HC2, HB2⟩ := hr2.elim
  clear hr2 h2'
  have HB := Aside0.mk (HB1.out.trans (HB2.out.mono HB1.out.size))
  have HC := Aside0.mk (Kd.C_below HC1.out HB2.out)
  have hx := words_len_mono (a := N1) (b := N2)
  have hy := words_len_mono (a := N2) (b := N1)
  rw [← HL1.out, ← HL2.out] at hx hy
  have HX := Aside0.mk hx
  have HY := Aside0.mk hy
  clear hx hy HC1 HB1 HB2
  rcases Nat.lt_trichotomy n1 n2 with hlt | heq | hgt
  · go_wp2_with fail
    go_ret
    exact ⟨ret_int (by rw [cmpN, if_pos (by rcases Nat.lt_or_ge N1 N2 with h | h; exact h; have := HY.out h; omega)]), HB.out⟩
  · subst heq
    go_wp2_with fail
    go_loopg [5] n1 (fun k v5 w' => ∃ (j : Nat) (i : Int), v5 = .int .i64 i ∧ i = (j : Int) - 1 ∧ j ≤ k ∧ j ≤ n1 ∧ Aside0 ((words N1).drop j = (words N2).drop j) ∧ Aside0 ((Kd.int .u32).C w' A1 n1 (words N1)) ∧ Aside0 ((Kd.int .u32).C w' A2 n1 (words N2)) ∧ Aside0 (Below w.heap.size w w'))
    case atStart => exact ⟨n1, _, rfl, rfl, Nat.le_refl _, Nat.le_refl _, ⟨by rw [List.drop_of_length_le (by rw [← HL1.out]; exact Nat.le_refl _), List.drop_of_length_le (by rw [← HL2.out]; exact Nat.le_refl _)]⟩, HC, HC2, HB⟩
    case round =>
      clear HC HC2 HB HX HY
      obtain ⟨j, i, rfl, hi, hk, hn, HD, HC, HC2, HB⟩ := hrel
      cases j with
      | zero =>
        obtain rfl : i = -1 := by omega
        clear hi
        go_wp2_with fail
        go_ret
        have e : N1 = N2 := words_inj (by simpa using HD.out)
        exact ⟨ret_int (by rw [cmpN, e, if_neg (Nat.lt_irrefl _), if_pos rfl]), HB.out⟩
      | succ m =>
        obtain rfl : i = (m : Int) := by omega
        obtain ⟨ad1, X, rfl, HXm, hc1⟩ := C_at HC.out m (by omega)
        obtain ⟨ad2, Y, rfl, HYm, hc2⟩ := C_at HC2.out m (by omega)
        have q1 := dg_getD (dg_words N1) m
        have q2 := dg_getD (dg_words N2) m
        have Q := Aside0.mk (And.intro q1 q2)
        clear q1 q2 hi
        rw [HXm.out, HYm.out] at Q
        rcases Int.lt_trichotomy X Y with hlt | heq | hgt
        · have H := Aside0.mk hlt
          have hb0 : (X != Y) = true := bne_iff_ne.2 (by omega)
          have hb1 : decide (X < Y) = true := decide_eq_true hlt
          go_wp2_with fail
          go_quiet (fail)
          go_wp2_with fail
          go_quiet (fail)
          go_wp2_with fail
          go_ret
          have hv := val_lt_of (dg_words _) (HL1.out.symm.trans HL2.out) m (by have := HL1.out; omega) HD.out (by have h1 := H.out; have := Q.out; rw [HXm.out, HYm.out]; omega)
          rw [val_words, val_words] at hv
          exact ⟨ret_int (by rw [cmpN, if_pos hv]), (by repeat first | exact HB.out | apply pw_below_drewN)⟩
        · subst heq
          go_wp2_with fail
          go_quiet (fail)
          go_wp2_with fail
          go_roundg m
          case measure => omega
          case rel =>
            refine ⟨m, _, rfl, rfl, Nat.le_refl _, by omega, ⟨?_⟩, ⟨Kd.C_drewN HC.out _⟩, ⟨Kd.C_drewN HC2.out _⟩, ⟨by repeat first | exact HB.out | apply pw_below_drewN⟩⟩
            have h1 : (words N1).getD m 0 = (words N2).getD m 0 := by rw [HXm.out, HYm.out]
            rw [drop_getD _ m (by have := HL1.out; omega), drop_getD _ m (by have := HL2.out; omega), h1, HD.out]
        · have H := Aside0.mk hgt
          have hb0 : (X != Y) = true := bne_iff_ne.2 (by omega)
          have hb1 : decide (X < Y) = false := decide_eq_false (by omega)
          clear hgt
          go_wp2_with fail
          go_quiet (fail)
          go_wp2_with fail
          go_quiet (fail)
          go_wp2_with fail
          go_ret
          have hv := val_lt_of (dg_words _) (HL2.out.symm.trans HL1.out) m (by have := HL2.out; omega) HD.out.symm (by have h1 := H.out; have := Q.out; rw [HXm.out, HYm.out]; omega)
          rw [val_words, val_words] at hv
          exact ⟨ret_int (by rw [cmpN, if_neg (by omega), if_neg (by omega)]), (by repeat first | exact HB.out | apply pw_below_drewN)⟩
  · go_wp2_with fail
    go_ret
    have hv : N2 < N1 := by rcases Nat.lt_or_ge N2 N1 with h | h; exact h; have := HX.out h; omega
    exact ⟨ret_int (by rw [cmpN, if_neg (by omega), if_neg (by omega)]), HB.out⟩

theorem add_app (x y O : List Int) (i : Nat) (cy X Y : Int) (hx : Dg x) (hy : Dg y) (hi : O.length = i) (hc : 0 ≤ cy ∧ cy ≤ 1) (hX : x.getD i 0 = X) (hY : y.getD i 0 = Y)
    (h : val O + 4294967296 ^ i * cy.toNat = val (x.take i) + val (y.take i)) :
    val (O ++ [(cy + X + Y) % 4294967296]) + 4294967296 ^ (i + 1) * ((cy + X + Y) / 4294967296).toNat = val (x.take (i + 1)) + val (y.take (i + 1)) ∧
    0 ≤ (cy + X + Y) / 4294967296 ∧ (cy + X + Y) / 4294967296 ≤ 1 := by
  have h1 := dg_getD hx i
  have h2 := dg_getD hy i
  rw [val_append, val_take', val_take', Nat.pow_succ, hi, hX, hY]
  rw [hX] at h1
  rw [hY] at h2
  simp only [val, Nat.mul_zero, Nat.add_zero]
  generalize 4294967296 ^ i = p at *
  refine ⟨?_, by omega, by omega⟩
  have e : ((cy + X + Y) % 4294967296).toNat + 4294967296 * ((cy + X + Y) / 4294967296).toNat = X.toNat + Y.toNat + cy.toNat := by omega
  generalize ((cy + X + Y) % 4294967296).toNat = u at *
  generalize ((cy + X + Y) / 4294967296).toNat = v at *
  have e2 : p * (u + 4294967296 * v) = p * (X.toNat + Y.toNat + cy.toNat) := by rw [e]
  grind

set_option maxRecDepth 100000 in
set_option maxHeartbeats 800000 in
theorem radd_any (w : World) (v1 v2 : Value) (N1 N2 : Nat) (h1 : Rd w v1 (words N1)) (h2 : Rd w v2 (words N2)) (hk1 : (words N1).length ≤ 100000) (hk2 : (words N2).length ≤ 100000) :
    Calls Tryz.prog 113 #[v1, v2] w (RetNum (N1 + N2) w) := by
  obtain ⟨n1, A1, c1, rfl, HL1, hc1, hm1, HC1⟩ := h1.elim
  obtain ⟨n2, A2, c2, rfl, HL2, hc2, hm2, HC2⟩ := h2.elim
  have hb1 : n1 ≤ 100000 := HL1.out ▸ hk1
  have hb2 : n2 ≤ 100000 := HL2.out ▸ hk2
  obtain ⟨M, hM1, hM2, hM3⟩ : ∃ M, n1 ≤ M ∧ n2 ≤ M ∧ M ≤ 100000 := ⟨100000, hb1, hb2, Nat.le_refl _⟩
  clear h1 h2 hk1 hk2 hm1 hm2
  go_enter Tryz.func113, Tryz.ntmps113
  go_wp2_with fail
  go_loopg [5, 6, 7] M (fun k v5 v6 v7 w' => ∃ (i : Nat) (cy : Int) (O : List Int), v7 = .int .i64 (i : Int) ∧ v6 = .int .u64 cy ∧ k + i = M ∧ Aside0 (O.length = i) ∧ Aside0 (Dg O) ∧ Aside0 (0 ≤ cy ∧ cy ≤ 1) ∧ Aside0 (val O + 4294967296 ^ i * cy.toNat = val ((words N1).take i) + val ((words N2).take i)) ∧ Aside0 (Ow w' w.heap.size v5 O) ∧ Aside0 (Below w.heap.size w w'))
  case atStart => exact ⟨0, 0, _, rfl, rfl, rfl, ⟨rfl⟩, ⟨dg_nil⟩, ⟨by decide⟩, ⟨by simp [val]⟩, ⟨Ow.nil _ _⟩, ⟨Below.refl _ _⟩⟩
  case round =>
    obtain ⟨i, cy, O, rfl, rfl, hki, HL, HD, HCY, HV, HO, HB⟩ := hrel
    have HQ := Aside0.mk hki
    have HM := Aside0.mk hM3
    clear hki hM3
    by_cases hlt1 : i < n1 <;> by_cases hlt2 : i < n2
    · obtain ⟨ad1, X, rfl, HX, hx⟩ := C_at (Kd.C_below HC1.out HB.out) i hlt1
      obtain ⟨ad2, Y, rfl, HY, hy⟩ := C_at (Kd.C_below HC2.out HB.out) i hlt2
      have HS := Aside0.mk (add_app (words N1) (words N2) O i cy X Y (dg_words _) (dg_words _) HL.out HCY.out HX.out HY.out HV.out)
      have DX := Aside0.mk (HX.out ▸ dg_getD (dg_words N1) i : 0 ≤ X ∧ X < 4294967296)
      have DY := Aside0.mk (HY.out ▸ dg_getD (dg_words N2) i : 0 ≤ Y ∧ Y < 4294967296)
      obtain ⟨S, hS⟩ : ∃ S, S = cy + X := ⟨_, rfl⟩
      obtain ⟨T, hT⟩ : ∃ T, T = cy + X + Y := ⟨_, rfl⟩
      rw [← hT] at HS
      have hw1 : IntKind.u64.wrap X = X := by have := DX.out; rw [IntKind.wrap_u64]; omega
      have hw3 : IntKind.u64.wrap (cy + X) = S := by have := DX.out; have := HCY.out; rw [IntKind.wrap_u64, hS]; omega
      have hw2 : IntKind.u64.wrap Y = Y := by have := DY.out; rw [IntKind.wrap_u64]; omega
      have hw4 : IntKind.u64.wrap (S + Y) = T := by have := DX.out; have := DY.out; have := HCY.out; rw [IntKind.wrap_u64, hT]; omega
      clear hT hS
      go_wp2_with (at_builtin; refine app_one (w0 := w) (.tmp 42) (.tmp 45) w.heap.size rfl rfl _ O (T % 4294967296) rfl rfl HO.out HB.out HB.out.size (by have := HL.out; have := HQ.out; have := HM.out; omega) ?_; intro v9 w9 ho9 hb9; have HO9 := Aside0.mk ho9; have HB9 := Aside0.mk hb9; clear ho9 hb9)
      go_roundg (gk - 1)
      case measure => have := HQ.out; omega
      case rel => exact ⟨i + 1, _, O ++ [T % 4294967296], by go_num, rfl, by have := HQ.out; omega, ⟨by rw [List.length_append, HL.out]; rfl⟩, ⟨dg_append.2 ⟨HD.out, dg_cons.2 ⟨by omega, dg_nil⟩⟩⟩, ⟨HS.out.2⟩, ⟨HS.out.1⟩, HO9, HB9⟩
    · obtain ⟨ad1, X, rfl, HX, hx⟩ := C_at (Kd.C_below HC1.out HB.out) i hlt1
      obtain ⟨Y, hy0, HY⟩ : ∃ Y : Int, Y = 0 ∧ Aside0 ((words N2).getD i 0 = Y) := ⟨0, rfl, ⟨getD_ge (by have := HL2.out; omega)⟩⟩
      have HS := Aside0.mk (add_app (words N1) (words N2) O i cy X Y (dg_words _) (dg_words _) HL.out HCY.out HX.out HY.out HV.out)
      have DX := Aside0.mk (HX.out ▸ dg_getD (dg_words N1) i : 0 ≤ X ∧ X < 4294967296)
      have DY := Aside0.mk (HY.out ▸ dg_getD (dg_words N2) i : 0 ≤ Y ∧ Y < 4294967296)
      obtain ⟨S, hS⟩ : ∃ S, S = cy + X := ⟨_, rfl⟩
      obtain ⟨T, hT⟩ : ∃ T, T = cy + X + Y := ⟨_, rfl⟩
      rw [← hT] at HS
      have hw1 : IntKind.u64.wrap X = X := by have := DX.out; rw [IntKind.wrap_u64]; omega
      have hw3 : IntKind.u64.wrap (cy + X) = S := by have := DX.out; have := HCY.out; rw [IntKind.wrap_u64, hS]; omega
      obtain rfl : S = T := by omega
      clear hS hT hy0
      go_wp2_with (at_builtin; refine app_one (w0 := w) (.tmp 42) (.tmp 45) w.heap.size rfl rfl _ O (S % 4294967296) rfl rfl HO.out HB.out HB.out.size (by have := HL.out; have := HQ.out; have := HM.out; omega) ?_; intro v9 w9 ho9 hb9; have HO9 := Aside0.mk ho9; have HB9 := Aside0.mk hb9; clear ho9 hb9)
      go_roundg (gk - 1)
      case measure => have := HQ.out; omega
      case rel => exact ⟨i + 1, _, O ++ [S % 4294967296], by go_num, rfl, by have := HQ.out; omega, ⟨by rw [List.length_append, HL.out]; rfl⟩, ⟨dg_append.2 ⟨HD.out, dg_cons.2 ⟨by omega, dg_nil⟩⟩⟩, ⟨HS.out.2⟩, ⟨HS.out.1⟩, HO9, HB9⟩
    · obtain ⟨X, hx0, HX⟩ : ∃ X : Int, X = 0 ∧ Aside0 ((words N1).getD i 0 = X) := ⟨0, rfl, ⟨getD_ge (by have := HL1.out; omega)⟩⟩
      obtain ⟨ad2, Y, rfl, HY, hy⟩ := C_at (Kd.C_below HC2.out HB.out) i hlt2
      have HS := Aside0.mk (add_app (words N1) (words N2) O i cy X Y (dg_words _) (dg_words _) HL.out HCY.out HX.out HY.out HV.out)
      have DX := Aside0.mk (HX.out ▸ dg_getD (dg_words N1) i : 0 ≤ X ∧ X < 4294967296)
      have DY := Aside0.mk (HY.out ▸ dg_getD (dg_words N2) i : 0 ≤ Y ∧ Y < 4294967296)
      obtain ⟨S, hS⟩ : ∃ S, S = cy + X := ⟨_, rfl⟩
      obtain ⟨T, hT⟩ : ∃ T, T = cy + X + Y := ⟨_, rfl⟩
      rw [← hT] at HS
      obtain rfl : cy = S := by omega
      have hw2 : IntKind.u64.wrap Y = Y := by have := DY.out; rw [IntKind.wrap_u64]; omega
      have hw4 : IntKind.u64.wrap (cy + Y) = T := by have := DX.out; have := DY.out; have := HCY.out; rw [IntKind.wrap_u64, hT]; omega
      clear hS hT hx0
      go_wp2_with (at_builtin; refine app_one (w0 := w) (.tmp 42) (.tmp 45) w.heap.size rfl rfl _ O (T % 4294967296) rfl rfl HO.out HB.out HB.out.size (by have := HL.out; have := HQ.out; have := HM.out; omega) ?_; intro v9 w9 ho9 hb9; have HO9 := Aside0.mk ho9; have HB9 := Aside0.mk hb9; clear ho9 hb9)
      go_roundg (gk - 1)
      case measure => have := HQ.out; omega
      case rel => exact ⟨i + 1, _, O ++ [T % 4294967296], by go_num, rfl, by have := HQ.out; omega, ⟨by rw [List.length_append, HL.out]; rfl⟩, ⟨dg_append.2 ⟨HD.out, dg_cons.2 ⟨by omega, dg_nil⟩⟩⟩, ⟨HS.out.2⟩, ⟨HS.out.1⟩, HO9, HB9⟩
    · have hS : val (O ++ [cy]) = N1 + N2 := by
        rw [val_append, HL.out]
        simp only [val, Nat.mul_zero, Nat.add_zero]
        rw [HV.out, List.take_of_length_le (by have := HL1.out; omega), List.take_of_length_le (by have := HL2.out; omega), val_words, val_words]
      have hD : Dg (O ++ [cy]) := dg_append.2 ⟨HD.out, dg_cons.2 ⟨by have := HCY.out; omega, dg_nil⟩⟩
      have HS := Aside0.mk (And.intro hS hD)
      have hcm : cy % 4294967296 = cy := by have := HCY.out; omega
      clear hS hD
      go_wp2_with (first | (at_builtin; refine app_one (w0 := w) (.tmp 49) (.tmp 52) w.heap.size rfl rfl _ O cy rfl rfl HO.out HB.out HB.out.size (by have := HL.out; have := HQ.out; have := HM.out; omega) ?_; intro v9 w9 ho9 hb9; have HO9 := Aside0.mk ho9; have HB9 := Aside0.mk hb9; clear ho9 hb9) | (go_at_call 108; refine (rnorm_any _ _ _ HS.out.2 HO9.out.reads (by have := HL.out; have := HQ.out; have := HM.out; rw [List.length_append]; simp; omega)).mono ?_; rw [HS.out.1]; rintro e w10 ⟨v10, rfl, hr10, hb10⟩))
      go_ret
      exact ⟨v10, rfl, hr10, HB9.out.trans (hb10.mono HB9.out.size)⟩

end Go.Proofs.YthknbknmlnnhcaaGreatDoor
