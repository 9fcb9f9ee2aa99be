/- Walks: bobbinref2.Text. -/
import Derived.Test.YthknbknmlnnhcaaGreatDoorWq
namespace Go.Proofs.YthknbknmlnnhcaaGreatDoor
open Go.RowKit Go.Proofs.YthknbknmlnnhcaaGreatDoorW.PrintWords Bob
set_option linter.unusedVariables false
set_option linter.unusedSimpArgs false

theorem decS_zero : decS 0 = { data := #[48] } := by
  unfold decS; rw [Lib.decDigits_one (by decide)]; rfl
/-- A row of bytes of blocks below B stays when nothing below B turns. -/
theorem Ow8.keep {w w1 : World} {base B : Nat} {v : Value} {l : List Int} (h : Ow8 w base v l) (hv : ∀ k, v.ownBlock = some k → k < B) (hb : Below B w w1) : Ow8 w1 base v l := by
  have h1 : (Kd.int .u8).R 5 w base (fun k => k < B) v l := Kd.R_of_own (Kd.own_of_R h) hv
  exact Kd.R_mono (Kd.R_move h1 fun k hk => hb.block k hk) (fun _ _ => trivial)
theorem Ow8.lt {w : World} {base : Nat} {v : Value} {l : List Int} (h : Ow8 w base v l) : ∀ k, v.ownBlock = some k → k < w.heap.size := fun k hk => ((Kd.R_bound h).1 k hk).2.2.1
theorem Ow.lt {w : World} {base : Nat} {v : Value} {l : List Int} (h : Ow w base v l) : ∀ k, v.ownBlock = some k → k < w.heap.size := fun k hk => ((Kd.R_bound h).1 k hk).2.2.1
theorem Ow.ge {w : World} {base : Nat} {v : Value} {l : List Int} (h : Ow w base v l) : ∀ k, v.ownBlock = some k → base ≤ k := fun k hk => ((Kd.R_bound h).1 k hk).2.1

theorem text_bound {N i L : Nat} (hL : (words N).length ≤ L) (h : N / 10 ^ (9 * i) ≠ 0) : 9 * i ≤ L * 32 := by
  have hp : 0 < 10 ^ (9 * i) := Nat.pow_pos (by decide)
  have h1 : 10 ^ (9 * i) ≤ N := by
    rcases Nat.lt_or_ge N (10 ^ (9 * i)) with h2 | h2
    · exact absurd (Nat.div_eq_of_lt h2) h
    · exact h2
  have h2 : 2 ^ (9 * i) ≤ 10 ^ (9 * i) := Nat.pow_le_pow_left (by decide) _
  have h3 := lt_bl_of (Nat.le_trans h2 h1)
  have h4 := bl_words_bound hL
  omega

set_option maxRecDepth 100000 in
set_option maxHeartbeats 2000000 in
theorem rtext_any (w : World) (v : Value) (N : Nat) (h : Rd w v (words N)) (hk : (words N).length ≤ 1000) : Calls Tryz.prog 115 #[v] w fun e w' => e = .returned (.string (decS N)) ∧ Below w.heap.size w w' := by
  have HK := Aside0.mk hk
  have HL0 := Aside0.mk hk
  go_enter Tryz.func115, Tryz.ntmps115
  go_wp2_with fail
  have hn := rnorm_own w v (words N) (dg_words N) h (by omega)
  rw [val_words] at hn
  refine hn.mono ?_
  rintro e w1 ⟨v3, rfl, ho, hb1⟩
  have HB1 := Aside0.mk hb1
  have HO := Aside0.mk ho
  have HLT := Aside0.mk ho.lt
  obtain ⟨A, c, rfl⟩ := Kd.R_slice ho
  clear hn h hk ho hb1
  obtain ⟨n, hnn⟩ : ∃ n, n = (words N).length := ⟨_, rfl⟩
  rw [← hnn] at HO HLT HK ⊢
  have HN := Aside0.mk hnn
  have hnk : n ≤ 1000 := HK.out
  clear hnn
  cases n with
  | zero =>
    have e : N = 0 := words_len_zero.1 HN.out.symm
    go_wp2_with fail
    go_ret
    exact ⟨by rw [e, decS_zero]; rfl, HB1.out⟩
  | succ n =>
    have HNE : Aside0 (N ≠ 0) := ⟨fun e => by have := HN.out; rw [e, words_zero] at this; cases this⟩
    go_wp2_with fail
    go_loopg [3, 4] N (fun k v3 v4 w' => ∃ (i M n : Nat) (A : Option Addr) (c : Nat), v3 = .slice A n c ∧ M ≤ k ∧ n ≤ 1000 ∧ 9 * i ≤ 40000 ∧ Aside0 (n = (words M).length) ∧ Aside0 (M = N / 10 ^ (9 * i)) ∧ Aside0 (∀ k, Value.ownBlock (.slice A n c) = some k → k < w1.heap.size) ∧ Aside0 (Ow w' w.heap.size (.slice A n c) (words M)) ∧ Aside0 (Ow8 w' w1.heap.size v4 (pad (9 * i) N)) ∧ Aside0 (Below w.heap.size w w') ∧ Aside0 (w1.heap.size ≤ w'.heap.size))
    case atStart => exact ⟨0, N, n + 1, A, c, rfl, Nat.le_refl _, hnk, by omega, HN, ⟨by rw [Nat.mul_zero, Nat.pow_zero, Nat.div_one]⟩, HLT, HO, ⟨Ow8.nil _ _⟩, HB1, ⟨Nat.le_refl _⟩⟩
    case round =>
      clear HO HLT HN HK hnk
      obtain ⟨i, M, n, A, c, rfl, hk, hnk, hi, HN, HM, HLT, HO, HO8, HB, HSZ⟩ := hrel
      have HI := Aside0.mk hi
      have HKK := Aside0.mk hk
      cases n with
      | zero =>
        have e : M = 0 := words_len_zero.1 HN.out.symm
        subst e
        obtain ⟨K, hK⟩ : ∃ K, K = 9 * i := ⟨_, rfl⟩
        rw [← hK] at HO8 HM HI
        have HN10 : Aside0 (N < 10 ^ K) := ⟨by
          have h1 := HM.out
          rcases Nat.lt_or_ge N (10 ^ K) with h | h
          · exact h
          · have := Nat.div_pos h (Nat.pow_pos (by decide) : 0 < 10 ^ K); omega⟩
        have hK1 : 1 ≤ K := by
          rcases Nat.eq_zero_or_pos K with h | h
          · subst h; have := HN10.out; have := HNE.out; omega
          · exact h
        have hK2 : K ≤ 40000 := HI.out
        clear hi hK HM HI
        have HI := Aside0.mk hK2
        obtain ⟨g4, c4, he4, hg41, hg42⟩ := HO8.out.form (by rw [pad_length]; exact hK1)
        rw [pad_length] at he4
        subst he4
        have HG4 := Aside0.mk hg42
        clear hg41 hg42 hk
        go_wp2_with fail
        obtain ⟨wo, rfl⟩ : ∃ wo : World, wo = wr := ⟨_, rfl⟩
        obtain ⟨g0, rfl⟩ : ∃ g0 : Nat, g0 = gk := ⟨_, rfl⟩
        go_loopg [8] K (fun k v8 w' => ∃ (n : Nat), v8 = .int .i64 (n : Int) ∧ n ≤ k ∧ 1 ≤ n ∧ n ≤ K ∧ Aside0 (N < 10 ^ n) ∧ Aside0 (w' = wo))
        case atStart => exact ⟨K, rfl, Nat.le_refl _, hK1, Nat.le_refl _, HN10, ⟨rfl⟩⟩
        case round =>
          obtain ⟨n, rfl, hk, hn1, hnk, H10, HW⟩ := hrel
          obtain rfl := HW.out
          clear HW
          obtain ⟨wo, rfl⟩ : ∃ wo : World, wo = wr := ⟨_, rfl⟩
          by_cases hone : n = 1
          · subst hone
            go_wp2_with fail
            have HM1 := Aside0.mk hn1
            have HM2 := Aside0.mk hnk
            go_loopg [9, 10] (0 + 1) (fun k v9 v10 w' => ∃ (j : Nat) (i' : Int) (L : List Int), v10 = .int .i64 i' ∧ i' = (j : Int) - 1 ∧ j ≤ k ∧ j ≤ 0 + 1 ∧ Aside0 (L = ((pad (0 + 1) N).drop j).reverse) ∧ Aside0 (Ow8 w' wo.heap.size v9 L) ∧ Aside0 (Below wo.heap.size wo w'))
            case atStart => exact ⟨0 + 1, _, [], rfl, by omega, Nat.le_refl _, Nat.le_refl _, ⟨by rw [List.drop_of_length_le (by rw [pad_length]; exact Nat.le_refl _)]; rfl⟩, ⟨Ow8.nil _ _⟩, ⟨Below.refl _ _⟩⟩
            case round =>
              obtain ⟨j, i', L, rfl, hij, hk, hj, HL, HOL, HBL⟩ := hrel
              cases j with
              | zero =>
                obtain rfl : i' = -1 := by omega
                clear hij
                have hcv := conv_bytes HOL.out
                have HFIN := Aside0.mk (show strOfNums L = decS N by rw [HL.out, List.drop_zero]; exact strOfNums_dec 0 N H10.out (.inl rfl))
                go_wp2_with fail
                go_ret
                exact ⟨by first | rfl | (rw [HFIN.out]; rfl), HB.out.trans (HBL.out.mono HB.out.size)⟩
              | succ q =>
                obtain rfl : i' = (q : Int) := by omega
                clear hij
                obtain ⟨Y, HY, hy1, hy2⟩ := (HO8.out.below HBL.out).cell q (by omega)
                have HLEN := Aside0.mk (show L.length ≤ 1000000 by rw [HL.out, List.length_reverse, List.length_drop, pad_length]; have := HI.out; omega)
                go_wp2_with (at_builtin; refine app_byte (w0 := wr) (.tmp 77) (.tmp 82) wo.heap.size rfl rfl _ _ Y rfl rfl HOL.out (Below.refl _ _) HBL.out.size HLEN.out ?_; intro v9 w9 ho9 hb9; have HO9 := Aside0.mk ho9; have HB9 := Aside0.mk hb9; clear ho9 hb9)
                go_roundg q
                case measure => omega
                case rel => exact ⟨q, _, _, by go_num, rfl, Nat.le_refl _, by omega, ⟨by
                    rw [HL.out, ← HY.out, drop_getD (pad (0 + 1) N) q (by rw [pad_length]; omega), List.reverse_cons, pad_getD _ _ _ (by omega), pad_getD _ _ _ (by omega)]⟩, HO9, ⟨HBL.out.trans HB9.out⟩⟩
          · obtain ⟨X, HX, hx1, hx2⟩ := HO8.out.cell (n - 1) (by omega)
            have HXD := Aside0.mk (show X = ((48 + N / 10 ^ (n - 1) % 10 : Nat) : Int) by rw [← HX.out]; exact pad_getD _ _ _ (by omega))
            by_cases h48 : X = 48
            · subst h48
              have HLT2 : Aside0 (N < 10 ^ (n - 1)) := ⟨lt_of_nought (n := n - 1) (by rw [show n - 1 + 1 = n by omega]; exact H10.out) (by have := HXD.out; omega)⟩
              obtain ⟨m, rfl⟩ : ∃ m, n = m + 1 := ⟨n - 1, by omega⟩
              rw [Nat.add_sub_cancel] at hx1 hx2 HLT2
              go_wp2_with fail
              go_roundg m
              case measure => omega
              case rel => exact ⟨m, by go_num, Nat.le_refl _, by omega, by omega, HLT2, ⟨rfl⟩⟩
            · have HGE : Aside0 (n - 1 = 0 ∨ 10 ^ (n - 1) ≤ N) := ⟨.inr (ge_of_digit (by intro h; apply h48; rw [HXD.out, h]; rfl))⟩
              obtain ⟨n', rfl⟩ : ∃ n', n = n' + 1 := ⟨n - 1, by omega⟩
              rw [Nat.add_sub_cancel] at hx1 hx2 HGE
              have h48b : (X == 48) = false := beq_eq_false_iff_ne.2 h48
              clear h48
              go_wp2_with fail
              have HM1 := Aside0.mk hn1
              have HM2 := Aside0.mk hnk
              go_loopg [9, 10] (n' + 1) (fun k v9 v10 w' => ∃ (j : Nat) (i' : Int) (L : List Int), v10 = .int .i64 i' ∧ i' = (j : Int) - 1 ∧ j ≤ k ∧ j ≤ n' + 1 ∧ Aside0 (L = ((pad (n' + 1) N).drop j).reverse) ∧ Aside0 (Ow8 w' wo.heap.size v9 L) ∧ Aside0 (Below wo.heap.size wo w'))
              case atStart => exact ⟨n' + 1, _, [], rfl, by omega, Nat.le_refl _, Nat.le_refl _, ⟨by rw [List.drop_of_length_le (by rw [pad_length]; exact Nat.le_refl _)]; rfl⟩, ⟨Ow8.nil _ _⟩, ⟨Below.refl _ _⟩⟩
              case round =>
                obtain ⟨j, i', L, rfl, hij, hk, hj, HL, HOL, HBL⟩ := hrel
                cases j with
                | zero =>
                  obtain rfl : i' = -1 := by omega
                  clear hij
                  have hcv := conv_bytes HOL.out
                  have HFIN := Aside0.mk (show strOfNums L = decS N by rw [HL.out, List.drop_zero]; exact strOfNums_dec n' N H10.out HGE.out)
                  go_wp2_with fail
                  go_ret
                  exact ⟨by first | rfl | (rw [HFIN.out]; rfl), HB.out.trans (HBL.out.mono HB.out.size)⟩
                | succ q =>
                  obtain rfl : i' = (q : Int) := by omega
                  clear hij
                  obtain ⟨Y, HY, hy1, hy2⟩ := (HO8.out.below HBL.out).cell q (by omega)
                  have HLEN := Aside0.mk (show L.length ≤ 1000000 by rw [HL.out, List.length_reverse, List.length_drop, pad_length]; have := HI.out; omega)
                  go_wp2_with (at_builtin; refine app_byte (w0 := wr) (.tmp 77) (.tmp 82) wo.heap.size rfl rfl _ _ Y rfl rfl HOL.out (Below.refl _ _) HBL.out.size HLEN.out ?_; intro v9 w9 ho9 hb9; have HO9 := Aside0.mk ho9; have HB9 := Aside0.mk hb9; clear ho9 hb9)
                  go_roundg q
                  case measure => omega
                  case rel => exact ⟨q, _, _, by go_num, rfl, Nat.le_refl _, by omega, ⟨by
                      rw [HL.out, ← HY.out, drop_getD (pad (n' + 1) N) q (by rw [pad_length]; omega), List.reverse_cons, pad_getD _ _ _ (by omega), pad_getD _ _ _ (by omega)]⟩, HO9, ⟨HBL.out.trans HB9.out⟩⟩
      | succ n =>
        have HMN : Aside0 (M ≠ 0) := ⟨fun e => by have := HN.out; rw [e, words_zero] at this; cases this⟩
        obtain ⟨g, cap, he, hg1, hg2⟩ := HO.out.form (by rw [← HN.out]; omega)
        injection he with e1 e2 e3
        subst e1 e3
        have HGL := Aside0.mk (HLT.out g rfl)
        have HGB := Aside0.mk hg1
        clear hg1 hg2 e2 hk
        go_wp2_with fail
        obtain ⟨wo, rfl⟩ : ∃ wo : World, wo = wr := ⟨_, rfl⟩
        obtain ⟨g0, rfl⟩ : ∃ g0 : Nat, g0 = gk := ⟨_, rfl⟩
        go_loopg [5, 6] (n + 1) (fun k v5 v6 w' => ∃ (j : Nat) (i' r : Int) (Q : List Int), v6 = .int .i64 i' ∧ v5 = .int .u64 r ∧ i' = (j : Int) - 1 ∧ j ≤ k ∧ j ≤ n + 1 ∧ Aside0 (Q.length = n + 1) ∧ Aside0 (Dg Q) ∧ Aside0 (0 ≤ r ∧ r < 1000000000) ∧ Aside0 (val ((words M).drop j) = val (Q.drop j) * (1000000000 : Int).toNat + r.toNat) ∧ Aside0 (∀ k, k < j → Q.getD k 0 = (words M).getD k 0) ∧ Aside0 (Ow w' w.heap.size (.slice (some ⟨g, 0, none⟩) (n + 1) c) Q) ∧ Aside0 (Ow8 w' w1.heap.size u4 (pad (9 * i) N)) ∧ Aside0 (Below w.heap.size w w') ∧ Aside0 (w1.heap.size ≤ w'.heap.size))
        case atStart => exact ⟨n + 1, _, 0, words M, rfl, rfl, by omega, Nat.le_refl _, Nat.le_refl _, ⟨HN.out.symm⟩, ⟨dg_words _⟩, ⟨by decide⟩, ⟨by rw [List.drop_of_length_le (by rw [← HN.out]; exact Nat.le_refl _)]; simp [val]⟩, ⟨fun _ _ => rfl⟩, HO, HO8, HB, HSZ⟩
        case round =>
          clear HO HO8 HB HSZ HLT
          obtain ⟨j, i', r, Q, rfl, rfl, hij, hk, hn, HQL, HQD, HR, HV, HQE, HO, HO8, HB, HSZ⟩ := hrel
          cases j with
          | zero =>
            obtain rfl : i' = -1 := by omega
            clear hij
            have hq : val Q = M / 1000000000 ∧ r.toNat = M % 1000000000 := by
              have e := HV.out
              simp only [List.drop_zero, val_words] at e
              rw [show (1000000000 : Int).toNat = 1000000000 from rfl] at e
              have hr := HR.out
              omega
            have HQ := Aside0.mk hq
            clear hq
            go_wp2_with fail
            refine (rtrimmed_eq _ _ _ _ Q HQD.out HO.out.reads).mono ?_
            rintro e w9 ⟨rfl, M9, hM9, hM9l, hM9t, rfl⟩
            have HOT := Aside0.mk (HO.out.trim hM9 hM9t)
            rw [HQ.out.1] at HOT
            have HM9 := Aside0.mk (show M9 = (words (M / 1000000000)).length by rw [hM9l, HQ.out.1])
            have hm9 : M9 ≤ 1000 := by omega
            clear hM9 hM9l hM9t HO
            go_wp2_with fail
            obtain ⟨wo2, rfl⟩ : ∃ wo : World, wo = w9 := ⟨_, rfl⟩
            obtain ⟨g2, rfl⟩ : ∃ g0 : Nat, g0 = gk := ⟨_, rfl⟩
            go_loopg [4, 5, 7] 9 (fun k v4 v5 v7 w' => ∃ (t : Nat) (r' : Int), v7 = .int .i64 (t : Int) ∧ v5 = .int .u64 r' ∧ k + t = 9 ∧ 0 ≤ r' ∧ r' < 1000000000 ∧ Aside0 (r'.toNat = M % 1000000000 / 10 ^ t) ∧ Aside0 (Ow8 w' w1.heap.size v4 (pad (9 * i) N ++ pad t (M % 1000000000))) ∧ Aside0 (Ow w' w.heap.size (.slice (some ⟨g, 0, none⟩) M9 c) (words (M / 1000000000))) ∧ Aside0 (Below w.heap.size w w') ∧ Aside0 (w1.heap.size ≤ w'.heap.size))
            case atStart => exact ⟨0, r, rfl, rfl, rfl, HR.out.1, HR.out.2, ⟨by rw [HQ.out.2, Nat.pow_zero, Nat.div_one]⟩, ⟨by rw [pad, List.append_nil]; exact HO8.out⟩, HOT, HB, HSZ⟩
            case round =>
              clear HO8 HOT HB HSZ
              obtain ⟨t, r', rfl, rfl, ht, hr0, hr1, HR9, HO8, HOT, HB, HSZ⟩ := hrel
              have HT := Aside0.mk ht
              by_cases ht9 : t < 9
              · have HD := Aside0.mk (show 48 + r' % 10 = ((48 + (M % 1000000000) / 10 ^ t % 10 : Nat) : Int) by rw [← HR9.out]; omega)
                have hlen : (pad (9 * i) N ++ pad t (M % 1000000000)).length ≤ 1000000 := by rw [List.length_append, pad_length, pad_length]; have := HI.out; omega
                have HLEN := Aside0.mk hlen
                clear hlen
                go_wp2_with (at_builtin; refine app_byte (w0 := wr) (.tmp 48) (.tmp 53) w1.heap.size rfl rfl _ _ (48 + r' % 10) rfl rfl HO8.out (Below.refl _ _) HSZ.out HLEN.out ?_; intro v9 w9 ho9 hb9; have HO9 := Aside0.mk ho9; have HB9 := Aside0.mk hb9; clear ho9 hb9)
                go_roundg (gk - 1)
                case measure => have := HT.out; omega
                case rel => exact ⟨t + 1, _, by go_num, by go_num, by have := HT.out; omega, by omega, by omega, ⟨by rw [Nat.pow_succ, ← Nat.div_div_eq_div_mul, ← HR9.out]; omega⟩, ⟨by rw [pad_snoc, ← List.append_assoc, ← HD.out]; exact HO9.out⟩, ⟨HOT.out.keep (fun k hk => by have := hk; simp [Value.ownBlock] at this; subst this; exact HGL.out) HB9.out⟩, ⟨HB.out.trans (HB9.out.mono HB1.out.size)⟩, ⟨Nat.le_trans HSZ.out HB9.out.size⟩⟩
              · obtain rfl : t = 9 := by omega
                clear ht
                go_wp2_with fail
                go_roundg (M / 1000000000)
                case measure => have := HKK.out; have := HMN.out; omega
                case rel => exact ⟨i + 1, M / 1000000000, M9, _, _, rfl, Nat.le_refl _, hm9, by
                    have h1 := text_bound (N := N) (i := i) (L := 1000) HL0.out (by rw [← HM.out]; exact HMN.out)
                    omega, HM9, ⟨by rw [HM.out, Nat.mul_add, Nat.pow_add, ← Nat.div_div_eq_div_mul]⟩, ⟨fun k hk => by simp [Value.ownBlock] at hk; subst hk; exact HGL.out⟩, HOT, ⟨by
                      have e : pad 9 (M % 1000000000) = pad 9 M := pad_mod 9 M
                      rw [show 9 * (i + 1) = 9 * i + 9 by omega, pad_add, ← HM.out, ← e]
                      exact HO8.out⟩, HB, HSZ⟩
          | succ m =>
            obtain rfl : i' = (m : Int) := by omega
            clear hij
            obtain ⟨X, HX, ho1, ho2⟩ := HO.out.cell m (by omega)
            have HX2 : Aside0 ((words M).getD m 0 = X) := ⟨(HQE.out m (Nat.lt_succ_self m)).symm.trans HX.out⟩
            have HS := Aside0.mk (short_step (words M) Q m 1000000000 r X (dg_words M) (by have := HQL.out; omega) HX2.out HR.out (by decide) HV.out)
            have DX := Aside0.mk (HX2.out ▸ dg_getD (dg_words M) m : 0 ≤ X ∧ X < 4294967296)
            have hx1 : IntKind.u64.wrap X = X := by have := DX.out; rw [IntKind.wrap_u64]; omega
            obtain ⟨T, hT⟩ : ∃ T, T = r * 4294967296 + X := ⟨_, rfl⟩
            have ht2 : IntKind.u64.wrap (r * 4294967296) = r * 4294967296 := by have := HR.out; rw [IntKind.wrap_u64]; omega
            have ht3 : bits .or .u64 (r * 4294967296) X = T := by
              have h1 := HR.out; have h3 := DX.out
              obtain ⟨r', rfl⟩ := Int.eq_ofNat_of_zero_le h1.1
              obtain ⟨x', rfl⟩ := Int.eq_ofNat_of_zero_le h3.1
              have := u64_or_high (a := r') (b := x') (s := 32) (by omega) (by omega)
              rw [show ((2 ^ 32 * r' : Nat) : Int) = (r' : Int) * 4294967296 by omega] at this
              rw [this]; omega
            rw [← hT] at HS
            have ht0 : 0 ≤ T := by have h1 := HR.out; have h3 := DX.out; omega
            have hq3 : T / 1000000000 % 4294967296 = T / 1000000000 := by have := HS.out.2.1; omega
            clear hT
            go_wp2_with fail
            go_roundg m
            case measure => omega
            case rel => exact ⟨m, _, _, Q.set m (T / 1000000000), rfl, by go_num, rfl, Nat.le_refl _, by omega, ⟨by rw [List.length_set]; exact HQL.out⟩, ⟨dg_set HQD.out _ _ HS.out.2.1⟩, ⟨HS.out.2.2⟩, ⟨HS.out.1⟩, ⟨fun k hk => by rw [getD_set _ _ _ _ (by have := HQL.out; omega), if_neg (by omega)]; exact HQE.out k (by omega)⟩, ⟨HO.out.put m _⟩, ⟨HO8.out.other HGL.out _ _⟩, ⟨HB.out.setCell HGB.out _⟩, ⟨by simpa using HSZ.out⟩⟩

end Go.Proofs.YthknbknmlnnhcaaGreatDoor
