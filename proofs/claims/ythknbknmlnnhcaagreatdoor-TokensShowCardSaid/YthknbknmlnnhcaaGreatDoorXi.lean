/- Walks: bobbinref1.divide, UDiv; bobbinref8.Text, Signed, Decimal. -/
import Derived.Lib.SmallJoins
import Derived.Lib.AppendIntMem
import Derived.Test.YthknbknmlnnhcaaGreatDoorXh
namespace Go.Proofs.YthknbknmlnnhcaaGreatDoor
open Go.RowKit Go.Proofs.YthknbknmlnnhcaaGreatDoorW.PrintWords Bob
set_option linter.unusedVariables false
set_option linter.unusedSimpArgs false

theorem decDigits_len {N k : Nat} (h : N < 10 ^ (k + 1)) : (Lib.decDigits N).length ≤ k + 1 := by
  induction k generalizing N with
  | zero => rw [Lib.decDigits, dif_pos (by simpa using h)]; simp
  | succ k ih =>
    rw [Lib.decDigits]
    split
    · simp
    · rw [List.length_append]
      have := ih (N := N / 10) (by rw [Nat.pow_succ] at h; omega)
      simp; omega
theorem dec_size (N : Nat) (h : N < 18446744073709551616) : (decS N).size ≤ 20 := by
  rw [decS_eq, S_size]
  exact decDigits_len (k := 19) (Nat.lt_of_lt_of_le h (by decide))

set_option maxRecDepth 100000 in
set_option maxHeartbeats 800000 in
theorem divide1_any (w : World) (L : Int) (x : Nat) (hx : x < 18446744073709551616) (hL : IntKind.u64.wrap L = (x : Int)) :
    Calls Tryz.prog 180 #[.int .i64 L, .int .i64 0, .int .i64 10] w fun e w' => e = .returned (.tuple #[.int .i64 ((x / 10 : Nat) : Int), .int .i64 0, .int .i64 ((x % 10 : Nat) : Int)]) ∧ Below w.heap.size w w' := by
  have HX := Aside0.mk hx
  clear hx
  go_enter Tryz.func180, Tryz.ntmps180
  go_wp2_with fail
  go_loopg [9, 10, 11, 12] 128 (fun k v9 v10 v11 v12 w' => ∃ (t r q : Nat) (i : Int), v12 = .int .i64 i ∧ i = (t : Int) - 1 ∧ v9 = .int .u64 (r : Int) ∧ v10 = .int .u64 (q : Int) ∧ v11 = .int .u64 0 ∧ t ≤ k ∧ t ≤ 128 ∧ r < 10 ∧ Aside0 (r = x / 2 ^ t % 10) ∧ Aside0 (q = x / 2 ^ t / 10) ∧ Aside0 (Below w.heap.size w w'))
  case atStart => exact ⟨128, 0, 0, 127, rfl, rfl, rfl, rfl, rfl, Nat.le_refl _, Nat.le_refl _, by decide, ⟨by rw [Nat.div_eq_of_lt (Nat.lt_of_lt_of_le HX.out (Nat.le_trans (by decide : 18446744073709551616 ≤ 2 ^ 64) (Nat.pow_le_pow_right (by decide) (by decide))))]⟩, ⟨by rw [Nat.div_eq_of_lt (Nat.lt_of_lt_of_le HX.out (Nat.le_trans (by decide : 18446744073709551616 ≤ 2 ^ 64) (Nat.pow_le_pow_right (by decide) (by decide))))]⟩, ⟨Below.refl _ _⟩⟩
  case round =>
    obtain ⟨t, r, q, i, rfl, hi, rfl, rfl, rfl, hk, ht, hr, HR, HQ, HB⟩ := hrel
    have hb1 : bits .and .u64 0 1 = 0 := by decide
    have hb2 : bits .or .u64 0 0 = 0 := by decide
    cases t with
    | zero =>
      obtain rfl : i = -1 := by omega
      clear hi
      have hw : wrap64 (q : Int) = (q : Int) := by
        have h1 := HQ.out
        have h2 := HX.out
        rw [Nat.pow_zero, Nat.div_one] at h1
        unfold wrap64; omega
      go_wp2_with fail
      refine bodyPost_ret (v := .tuple #[.int .i64 (q : Int), .int .i64 0, .int .i64 (r : Int)]) (by simp [results, Tryz.results180, go_sem, hw]) rfl ⟨?_, HB.out⟩
      have h1 := HQ.out
      have h2 := HR.out
      rw [Nat.pow_zero, Nat.div_one] at h1 h2
      rw [h1, h2]
    | succ t =>
      obtain rfl : i = (t : Int) := by omega
      clear hi
      by_cases h64 : 64 ≤ t
      · have hz : ∀ u, 64 ≤ u → x / 2 ^ u = 0 := fun u hu => Nat.div_eq_of_lt (Nat.lt_of_lt_of_le HX.out (Nat.le_trans (by decide : 18446744073709551616 ≤ 2 ^ 64) (Nat.pow_le_pow_right (by decide) hu)))
        obtain rfl : r = 0 := by rw [HR.out, hz _ (by omega)]
        obtain rfl : q = 0 := by rw [HQ.out, hz _ (by omega)]
        have HZ := Aside0.mk (hz t h64)
        clear hz hr
        go_wp2_with fail
        go_roundg t
        case measure => omega
        case rel => exact ⟨t, 0, 0, _, rfl, rfl, rfl, rfl, rfl, Nat.le_refl _, by omega, by decide, ⟨by rw [HZ.out]⟩, ⟨by rw [HZ.out]⟩, HB⟩
      · obtain ⟨b, hb⟩ : ∃ b, b = x / 2 ^ t % 2 := ⟨_, rfl⟩
        have hbb : b < 2 := by omega
        have hbit : bits .and .u64 ((x : Int) / 2 ^ (t % 64)) 1 = (b : Int) := by
          rw [show t % 64 = t by omega, show (x : Int) / 2 ^ t = ((x / 2 ^ t : Nat) : Int) by rw [Int.natCast_ediv, Int.natCast_pow]; rfl, and_one _ (Nat.lt_of_le_of_lt (Nat.div_le_self _ _) HX.out), hb]
        have hstep : x / 2 ^ t = 2 * (x / 2 ^ (t + 1)) + b := by
          rw [hb, Nat.pow_succ, ← Nat.div_div_eq_div_mul]; omega
        have hPb : x / 2 ^ (t + 1) < 9223372036854775808 := by
          have h1 := Nat.div_le_self x (2 ^ t)
          have h2 := HX.out
          rw [Nat.pow_succ, ← Nat.div_div_eq_div_mul]; omega
        have hq2 : q < 922337203685477581 := by have := HQ.out; omega
        have hr2 : r = x / 2 ^ (t + 1) % 10 := HR.out
        have hq3 : q = x / 2 ^ (t + 1) / 10 := HQ.out
        have hor : bits .or .u64 ((r : Int) * 2) (b : Int) = ((2 * r + b : Nat) : Int) := by
          have h1 := u64_or_high (a := r) (b := b) (s := 1) (by omega) (by omega)
          rw [show ((2 ^ 1 * r : Nat) : Int) = (r : Int) * 2 by omega] at h1
          rw [h1]
        have hor1 : bits .or .u64 ((q : Int) * 2) 1 = ((2 * q + 1 : Nat) : Int) := by
          have h1 := u64_or_high (a := q) (b := 1) (s := 1) (by omega) (by omega)
          rw [show ((2 ^ 1 * q : Nat) : Int) = (q : Int) * 2 by omega] at h1
          exact h1
        have hqs : (q : Int) / 9223372036854775808 = 0 := by omega
        have hrs : (r : Int) / 9223372036854775808 = 0 := by omega
        have hqw : IntKind.u64.wrap ((q : Int) * 2) = (q : Int) * 2 := by rw [IntKind.wrap_u64]; omega
        have HFIN := Aside0.mk (show (10 ≤ 2 * r + b → 2 * r + b - 10 = x / 2 ^ t % 10 ∧ 2 * q + 1 = x / 2 ^ t / 10) ∧ (2 * r + b < 10 → 2 * r + b = x / 2 ^ t % 10 ∧ 2 * q = x / 2 ^ t / 10) by
          rw [hstep, hr2, hq3]; omega)
        obtain ⟨R, hR⟩ : ∃ R, R = 2 * r + b := ⟨_, rfl⟩
        have hR20 : R < 20 := by omega
        rw [← hR] at hor HFIN
        clear hb hstep hPb hq2 hr2 hq3
        by_cases h10 : 10 ≤ R
        · have hsub : IntKind.u64.wrap ((R : Int) - 10) = (R : Int) - 10 := by rw [IntKind.wrap_u64]; omega
          clear hbb hR
          go_wp2_with fail
          go_roundg t
          case measure => omega
          case rel => exact ⟨t, R - 10, 2 * q + 1, _, rfl, rfl, by go_num, by go_num, rfl, Nat.le_refl _, by omega, by omega, ⟨(HFIN.out.1 h10).1⟩, ⟨(HFIN.out.1 h10).2⟩, HB⟩
        · clear hbb hR
          go_wp2_with fail
          go_roundg t
          case measure => omega
          case rel => exact ⟨t, R, 2 * q, _, rfl, rfl, by go_num, by go_num, rfl, Nat.le_refl _, by omega, by omega, ⟨(HFIN.out.2 (by omega)).1⟩, ⟨(HFIN.out.2 (by omega)).2⟩, HB⟩

set_option maxRecDepth 100000 in
set_option maxHeartbeats 800000 in
theorem udiv1_any (w : World) (L : Int) (x : Nat) (hx : x < 18446744073709551616) (hL : IntKind.u64.wrap L = (x : Int)) :
    Calls Tryz.prog 160 #[.int .i64 L, .int .i64 0, .int .i64 10] w fun e w' => e = .returned (.tuple #[.int .i64 ((x % 10 : Nat) : Int), .int .i64 ((x / 10 : Nat) : Int), .int .i64 0]) ∧ Below w.heap.size w w' := by
  have HX := Aside0.mk (divide1_any w L x hx hL)
  obtain ⟨q, hq⟩ : ∃ q, q = x / 10 := ⟨_, rfl⟩
  obtain ⟨r, hr⟩ : ∃ r, r = x % 10 := ⟨_, rfl⟩
  rw [← hq, ← hr] at HX ⊢
  clear hq hr hx hL
  go_enter Tryz.func160, Tryz.ntmps160
  go_wp2_with fail
  refine HX.out.mono ?_
  rintro e w1 ⟨rfl, hb⟩
  go_wp2_with fail
  exact bodyPost_ret (v := .tuple #[.int .i64 (r : Int), .int .i64 (q : Int), .int .i64 0]) (by simp [results, Tryz.results160, go_sem]) rfl ⟨rfl, hb⟩

set_option maxRecDepth 100000 in
set_option maxHeartbeats 800000 in
theorem text8_any (w : World) (L : Int) (x : Nat) (hx : x < 18446744073709551616) (hL : IntKind.u64.wrap L = (x : Int)) (hL2 : IntKind.i64.wrap L = L) :
    Calls Tryz.prog 120 #[.int .i64 L, .int .i64 0, .int .i64 10] w fun e w' => e = .returned (.string (decS x)) ∧ Below w.heap.size w w' := by
  have HX := Aside0.mk hx
  have HL := Aside0.mk hL
  clear hx hL
  go_enter Tryz.func120, Tryz.ntmps120
  go_wp2_with fail
  go_loopg [7, 0, 1] (x + 1) (fun k v7 v0 v1 w' => ∃ (i M : Nat) (l : Int), v0 = .int .i64 l ∧ v1 = .int .i64 0 ∧ i ≤ 21 ∧ Aside0 (M + (if i = 0 then 1 else 0) ≤ k) ∧ Aside0 (IntKind.u64.wrap l = (M : Int)) ∧ (l = 0 → M = 0) ∧ (M = 0 → l = 0) ∧ Aside0 (M = x / 10 ^ i) ∧ Aside0 (i = 0 ∨ i = 1 ∨ 10 ^ (i - 1) ≤ x) ∧ Aside0 (Ow8 w' w.heap.size v7 (pad i x)) ∧ Aside0 (Below w.heap.size w w'))
  case atStart => exact ⟨0, x, L, rfl, rfl, by decide, ⟨by rw [if_pos rfl]; exact Nat.le_refl _⟩, HL, fun h => by have := HL.out; rw [h, IntKind.wrap_u64] at this; omega, fun h => by have h1 := HL.out; have h2 := hL2; rw [IntKind.wrap_u64] at h1; rw [IntKind.wrap_i64] at h2; omega, ⟨by rw [Nat.pow_zero, Nat.div_one]⟩, ⟨.inl rfl⟩, ⟨Ow8.nil _ _⟩, ⟨Below.refl _ _⟩⟩
  case round =>
    obtain ⟨i, M, l, rfl, rfl, hi, HK, HW, hl1, hl2, HM, HI, HO, HB⟩ := hrel
    have HI21 := Aside0.mk hi
    have hMx : M < 18446744073709551616 := by rw [HM.out]; exact Nat.lt_of_le_of_lt (Nat.div_le_self _ _) HX.out
    have HMX := Aside0.mk hMx
    have hr10 : M % 10 < 10 := Nat.mod_lt _ (by decide)
    obtain ⟨r, hr⟩ : ∃ r, r = M % 10 := ⟨_, rfl⟩
    obtain ⟨q, hq⟩ : ∃ q, q = M / 10 := ⟨_, rfl⟩
    have hud : ∀ W, Calls Tryz.prog 160 #[.int .i64 l, .int .i64 0, .int .i64 10] W fun e w' => e = .returned (.tuple #[.int .i64 (r : Int), .int .i64 (q : Int), .int .i64 0]) ∧ Below W.heap.size W w' := fun W => by
      rw [hr, hq]; exact udiv1_any W l M HMX.out HW.out
    have HUD := Aside0.mk hud
    have hidx := idx_str (P := Tryz.prog) 9 Tryz.underlying9 [48, 49, 50, 51, 52, 53, 54, 55, 56, 57, 65, 66, 67, 68, 69, 70, 71, 72, 73, 74, 75, 76, 77, 78, 79, 80, 81, 82, 83, 84, 85, 86, 87, 88, 89, 90] r (by simp; omega) (48 + r) (by
      have : r < 10 := by omega
      match r, this with
      | 0, _ | 1, _ | 2, _ | 3, _ | 4, _ | 5, _ | 6, _ | 7, _ | 8, _ | 9, _ => rfl)
    rw [show S [48, 49, 50, 51, 52, 53, 54, 55, 56, 57, 65, 66, 67, 68, 69, 70, 71, 72, 73, 74, 75, 76, 77, 78, 79, 80, 81, 82, 83, 84, 85, 86, 87, 88, 89, 90] = { data := #[48, 49, 50, 51, 52, 53, 54, 55, 56, 57, 65, 66, 67, 68, 69, 70, 71, 72, 73, 74, 75, 76, 77, 78, 79, 80, 81, 82, 83, 84, 85, 86, 87, 88, 89, 90] } from rfl] at hidx
    have HD := Aside0.mk (show pad (i + 1) x = pad i x ++ [((48 + r : Nat) : Int)] by rw [pad_snoc, ← HM.out, hr])
    have HQ := Aside0.mk (show q = x / 10 ^ (i + 1) by rw [hq, HM.out, Nat.pow_succ, Nat.div_div_eq_div_mul])
    have HQL := Aside0.mk (show q * 10 ≤ M ∧ q < 9223372036854775808 by omega)
    have HLEN := Aside0.mk (show (pad i x).length ≤ 1000000 by rw [pad_length]; omega)
    obtain ⟨A7, c7, rfl⟩ := HO.out.slice
    rw [pad_length] at HO ⊢
    clear hr hq hud hMx hr10
    cases i with
    | zero =>
      clear hl1 hl2
      go_wp2_with fail
      refine (HUD.out _).mono ?_
      rintro e w2 ⟨rfl, hb2⟩
      have HB2 := Aside0.mk (HB.out.trans (hb2.mono HB.out.size))
      have HO2 := Aside0.mk (HO.out.below hb2)
      clear hb2
      go_wp2_with (at_builtin; refine app_byte (w0 := w2) (.tmp 52) (.tmp 55) w.heap.size rfl rfl _ _ (48 + (r : Int)) rfl rfl HO2.out ((Below.refl _ _).mono HB2.out.size) HB2.out.size HLEN.out ?_; intro v9 w9 ho9 hb9; have HO9 := Aside0.mk ho9; have HB9 := Aside0.mk hb9; clear ho9 hb9)
      go_roundg (gk - 1)
      case measure => have := HK.out; simp at this; omega
      case rel =>
        refine ⟨1, q, _, rfl, rfl, by decide, ⟨?_⟩, ⟨by have := HQL.out.2; rw [IntKind.wrap_u64]; omega⟩, fun h => by omega, fun h => by omega, HQ, ⟨.inr (.inl rfl)⟩, ⟨by rw [HD.out]; exact HO9.out⟩, ⟨HB2.out.trans HB9.out⟩⟩
        have := HK.out; have := HQL.out; simp at this ⊢; simp at *; omega
    | succ i =>
      by_cases hl0 : l = 0
      · subst hl0
        have hM0 : M = 0 := hl1 rfl
        subst hM0
        clear hl1 hl2
        have HX10 := Aside0.mk (show x < 10 ^ (i + 1) by
          have h1 := HM.out
          rcases Nat.lt_or_ge x (10 ^ (i + 1)) with h | h
          · exact h
          · have := Nat.div_pos h (Nat.pow_pos (by decide) : 0 < 10 ^ (i + 1)); omega)
        have HGE := Aside0.mk (show i = 0 ∨ 10 ^ i ≤ x by
          rcases HI.out with h | h | h
          · omega
          · exact .inl (by omega)
          · exact .inr (by rwa [Nat.add_sub_cancel] at h))
        obtain ⟨g7, cap7, he, hg1, hg2⟩ := HO.out.form (by rw [pad_length]; omega)
        injection he with e1 e2 e3
        subst e1 e3
        clear hg1 hg2 e2 hidx hi
        have hi21 : i ≤ 21 := by have := HI21.out; omega
        go_wp2_with fail
        obtain ⟨wo, rfl⟩ : ∃ wo : World, wo = wr := ⟨_, rfl⟩
        obtain ⟨g0, rfl⟩ : ∃ g0 : Nat, g0 = gk := ⟨_, rfl⟩
        go_loopg [12, 13] (i + 1) (fun k v12 v13 w' => ∃ (j : Nat) (i' : Int) (T : List Int), v13 = .int .i64 i' ∧ i' = (j : Int) - 1 ∧ j ≤ k ∧ j ≤ i + 1 ∧ Aside0 (T = ((pad (i + 1) x).drop j).reverse) ∧ Aside0 (Ow8 w' wo.heap.size v12 T) ∧ Aside0 (Below wo.heap.size wo w'))
        case atStart => exact ⟨i + 1, _, [], rfl, by omega, Nat.le_refl _, Nat.le_refl _, ⟨by rw [List.drop_of_length_le (by rw [pad_length]; exact Nat.le_refl _)]; rfl⟩, ⟨Ow8.nil _ _⟩, ⟨Below.refl _ _⟩⟩
        case round =>
          obtain ⟨j, i', T, rfl, hij, hk, hj, HT, HOL, HBL⟩ := hrel
          cases j with
          | zero =>
            obtain rfl : i' = -1 := by omega
            clear hij
            have hcv := conv_bytes HOL.out
            have HFIN := Aside0.mk (show strOfNums T = decS x by rw [HT.out, List.drop_zero]; exact strOfNums_dec i x HX10.out HGE.out)
            go_wp2_with fail
            go_ret
            exact ⟨by rw [HFIN.out]; rfl, HB.out.trans (HBL.out.mono HB.out.size)⟩
          | succ m =>
            obtain rfl : i' = (m : Int) := by omega
            clear hij
            obtain ⟨Y, HY, hy1, hy2⟩ := (HO.out.below HBL.out).cell m (by omega)
            have HLEN := Aside0.mk (show T.length ≤ 1000000 by rw [HT.out, List.length_reverse, List.length_drop, pad_length]; have := HI21.out; omega)
            go_wp2_with (at_builtin; refine app_byte (w0 := wr) (.tmp 64) (.tmp 69) wo.heap.size rfl rfl _ _ Y rfl rfl HOL.out (Below.refl _ _) HBL.out.size HLEN.out ?_; intro v9 w9 ho9 hb9; have HO9 := Aside0.mk ho9; have HB9 := Aside0.mk hb9; clear ho9 hb9)
            go_roundg m
            case measure => omega
            case rel => exact ⟨m, _, _, by go_num, rfl, Nat.le_refl _, by omega, ⟨by
                rw [HT.out, ← HY.out, drop_getD (pad (i + 1) x) m (by rw [pad_length]; omega), List.reverse_cons, pad_getD _ _ _ (by omega)]⟩, HO9, ⟨HBL.out.trans HB9.out⟩⟩
      · have hM0 : M ≠ 0 := fun h => hl0 (hl2 h)
        have HM0 := Aside0.mk hM0
        have hne : (l == 0) = false := beq_eq_false_iff_ne.2 hl0
        clear hl1 hl2 hM0
        have HPW := Aside0.mk (show 10 ^ (i + 1) ≤ x by
          have h1 := HM.out
          rcases Nat.lt_or_ge x (10 ^ (i + 1)) with h | h
          · exact absurd (h1.trans (Nat.div_eq_of_lt h)) HM0.out
          · exact h)
        have HI20 := Aside0.mk (show i + 2 ≤ 21 by
          rcases Nat.lt_or_ge i 19 with h | h
          · omega
          · have h1 : 10 ^ 20 ≤ 10 ^ (i + 1) := Nat.pow_le_pow_right (by decide) (by omega)
            have h2 := HPW.out
            have h3 := HX.out
            omega)
        go_wp2_with fail
        refine (HUD.out _).mono ?_
        rintro e w2 ⟨rfl, hb2⟩
        have HB2 := Aside0.mk (HB.out.trans (hb2.mono HB.out.size))
        have HO2 := Aside0.mk (HO.out.below hb2)
        clear hb2
        go_wp2_with (at_builtin; refine app_byte (w0 := w2) (.tmp 52) (.tmp 55) w.heap.size rfl rfl _ _ (48 + (r : Int)) rfl rfl HO2.out ((Below.refl _ _).mono HB2.out.size) HB2.out.size HLEN.out ?_; intro v9 w9 ho9 hb9; have HO9 := Aside0.mk ho9; have HB9 := Aside0.mk hb9; clear ho9 hb9)
        go_roundg (gk - 1)
        case measure => have := HK.out; have := HM0.out; simp at this; omega
        case rel =>
          refine ⟨i + 2, q, _, rfl, rfl, HI20.out, ⟨?_⟩, ⟨by have := HQL.out.2; rw [IntKind.wrap_u64]; omega⟩, fun h => by omega, fun h => by omega, HQ, ⟨.inr (.inr HPW.out)⟩, ⟨by rw [HD.out]; exact HO9.out⟩, ⟨HB2.out.trans HB9.out⟩⟩
          have := HK.out; have := HQL.out; have := HM0.out; rw [if_neg (by omega)] at *; omega

set_option maxRecDepth 100000 in
theorem decimal8_any (w : World) (n : Int) (h0 : -9223372036854775808 ≤ n) (h1 : n ≤ 9223372036854775807) :
    Calls Tryz.prog 30 #[.int .i64 n] w fun e w' => e = .returned (.string (S (Lib.itoa n))) ∧ Below w.heap.size w w' := by
  have HS : Calls Tryz.prog 70 #[.int .i64 n, .int .i64 10] w fun e w' => e = .returned (.string (S (Lib.itoa n))) ∧ Below w.heap.size w w' := by
    by_cases hn : n < 0
    · have hw : IntKind.u64.wrap (wrap64 (-n)) = (n.natAbs : Int) := by rw [IntKind.wrap_u64]; unfold wrap64; omega
      have H8 := fun W => text8_any W (wrap64 (-n)) n.natAbs (by omega) hw (by rw [IntKind.wrap_i64]; unfold wrap64; omega)
      have HS := Aside0.mk (show ({ data := #[45] } : ByteArray) ++ decS n.natAbs = S (Lib.itoa n) by
        unfold Lib.itoa; rw [if_pos hn, decS_eq]; exact S_cat [45] _)
      have hs := dec_size n.natAbs (by omega)
      obtain ⟨U, hU⟩ : ∃ U, U = decS n.natAbs := ⟨_, rfl⟩
      obtain ⟨V, hV⟩ : ∃ V, V = S (Lib.itoa n) := ⟨_, rfl⟩
      rw [← hU] at hs HS
      rw [← hV] at HS ⊢
      have hcat := HS.out
      have H8' := Aside0.mk H8
      rw [← hU] at H8'
      clear hU H8 hw h0 h1 hV
      go_enter Tryz.func70, Tryz.ntmps70
      go_wp2_with fail
      refine (H8'.out w).mono ?_
      rintro e w1 ⟨rfl, hb⟩
      go_wp2_with fail
      go_ret
      exact ⟨rfl, hb⟩
    · have hw : IntKind.u64.wrap n = (n.natAbs : Int) := by rw [IntKind.wrap_u64]; omega
      have H8 := fun W => text8_any W n n.natAbs (by omega) hw (by rw [IntKind.wrap_i64]; omega)
      have HS := Aside0.mk (show decS n.natAbs = S (Lib.itoa n) by
        unfold Lib.itoa; rw [if_neg hn, decS_eq, show n.toNat = n.natAbs by omega])
      have H8' := Aside0.mk H8
      rw [HS.out] at H8'
      clear H8 hw h0 h1
      go_enter Tryz.func70, Tryz.ntmps70
      go_wp2_with fail
      refine (H8'.out w).mono ?_
      rintro e w1 ⟨rfl, hb⟩
      go_wp2_with fail
      go_ret
      exact ⟨rfl, hb⟩
  go_enter Tryz.func30, Tryz.ntmps30
  go_wp2_with fail
  refine HS.mono ?_
  rintro e w1 ⟨rfl, hb⟩
  go_wp2_with fail
  go_ret
  exact ⟨rfl, hb⟩

set_option maxRecDepth 100000 in
theorem decimal4_any (w : World) (n : Int) (h0 : -9223372036854775808 ≤ n) (h1 : n ≤ 9223372036854775807) :
    Calls Tryz.prog 64 #[.int .i64 n] w fun e w' => e = .returned (.string (S (Lib.itoa n))) ∧ Below w.heap.size w w' := by
  have hwl : (words n.natAbs).length ≤ 1000 := Nat.le_trans (words_len_le (k := 2) (by omega)) (by decide)
  by_cases hn : n < 0
  · have hw : IntKind.u64.wrap (-IntKind.u64.wrap n) = (n.natAbs : Int) := by rw [IntKind.wrap_u64, IntKind.wrap_u64]; omega
    have HS := Aside0.mk (show ({ data := #[45] } : ByteArray) ++ decS n.natAbs = S (Lib.itoa n) by
      unfold Lib.itoa; rw [if_pos hn, decS_eq]; exact S_cat [45] _)
    have hs := dec_size n.natAbs (by omega)
    obtain ⟨m, hm⟩ : ∃ m, m = n.natAbs := ⟨_, rfl⟩
    rw [← hm] at hw HS hs hwl
    have HM := Aside0.mk (show m < 18446744073709551616 by omega)
    have HWL := Aside0.mk hwl
    obtain ⟨V, hV⟩ : ∃ V, V = S (Lib.itoa n) := ⟨_, rfl⟩
    rw [← hV] at HS ⊢
    clear hm h0 h1 hV hwl
    go_enter Tryz.func64, Tryz.ntmps64
    go_wp2_with fail
    refine (rof_any w m HM.out).mono ?_
    rintro e w1 ⟨v1, rfl, hr, hb⟩
    have HR := Aside0.mk hr
    have HB := Aside0.mk hb
    clear hr hb
    go_wp2_with fail
    refine (rtext_any w1 _ m HR.out HWL.out).mono ?_
    obtain ⟨U, hU⟩ : ∃ U, U = decS m := ⟨_, rfl⟩
    rw [← hU] at hs HS ⊢
    have hcat := HS.out
    clear hU
    rintro e w2 ⟨rfl, hb⟩
    have HB2 := Aside0.mk (HB.out.trans (hb.mono HB.out.size))
    clear hb
    go_wp2_with fail
    go_ret
    exact ⟨rfl, HB2.out⟩
  · have hw : IntKind.u64.wrap n = (n.natAbs : Int) := by rw [IntKind.wrap_u64]; omega
    have HS := Aside0.mk (show decS n.natAbs = S (Lib.itoa n) by
      unfold Lib.itoa; rw [if_neg hn, decS_eq, show n.toNat = n.natAbs by omega])
    obtain ⟨m, hm⟩ : ∃ m, m = n.natAbs := ⟨_, rfl⟩
    rw [← hm] at hw HS hwl
    have HM := Aside0.mk (show m < 18446744073709551616 by omega)
    have HWL := Aside0.mk hwl
    clear hm h0 h1 hwl
    go_enter Tryz.func64, Tryz.ntmps64
    go_wp2_with fail
    refine (rof_any w m HM.out).mono ?_
    rintro e w1 ⟨v1, rfl, hr, hb⟩
    have HR := Aside0.mk hr
    have HB := Aside0.mk hb
    clear hr hb
    go_wp2_with fail
    refine (rtext_any w1 _ m HR.out HWL.out).mono ?_
    rw [HS.out]
    rintro e w2 ⟨rfl, hb⟩
    have HB2 := Aside0.mk (HB.out.trans (hb.mono HB.out.size))
    clear hb
    go_wp2_with fail
    go_ret
    exact ⟨rfl, HB2.out⟩

/-- The library's table of powers of ten lies there. -/
def Tab (w : World) : Prop := Lib.TabIs Tryz.prog w "internal/strconv.uint64pow10" .u64 Lib.pow10Tab
theorem Tab.below {w w' : World} (h : Tab w) (hb : Below w.heap.size w w') : Tab w' := by
  cases hg : Tryz.prog.globalNamed "internal/strconv.uint64pow10" with
  | none => unfold Tab Lib.TabIs World.var? at h; rw [hg] at h; cases h
  | some g => exact Joins.tab_stays hg h hb (Nat.le_refl _)
theorem itoa_any (w : World) (n : Int) (h0 : -9223372036854775808 ≤ n) (h1 : n ≤ 9223372036854775807) (ht : Tab w) :
    Calls Tryz.prog 27 #[.int .i64 n] w fun e w' => e = .returned (.string (S (Lib.itoa n))) ∧ Below w.heap.size w w' := by
  refine (Tryz.strconv_Itoa n h0 h1 w ht).mono ?_
  rintro e w' ⟨rfl, k, os, rfl⟩
  exact ⟨rfl, Lib.below_grow _ w (Nat.le_refl _) k os⟩

end Go.Proofs.YthknbknmlnnhcaaGreatDoor
