/- Walks: bobbinref4.scaled. -/
import Derived.Test.YthknbknmlnnhcaaGreatDoorWv
namespace Go.Proofs.YthknbknmlnnhcaaGreatDoor
open Go.RowKit Go.Proofs.YthknbknmlnnhcaaGreatDoorW.PrintWords Bob
set_option linter.unusedVariables false
set_option linter.unusedSimpArgs false

/-- The integer nearest to A by B; of two the even one. -/
def rne (A B : Nat) : Nat := if B < 2 * (A % B) ∨ (2 * (A % B) = B ∧ A / B % 2 = 1) then A / B + 1 else A / B
theorem rne_le (A B : Nat) : rne A B ≤ A / B + 1 := by unfold rne; split <;> omega
theorem words_succ_len {a b : Nat} (h : b ≤ a + 1) : (words b).length ≤ (words a).length + 1 := by
  refine words_len_le ?_
  have h1 := words_lt a
  have h2 : 0 < 4294967296 ^ (words a).length := Nat.pow_pos (by decide)
  rw [Nat.pow_succ]
  omega
theorem and_one (x : Nat) (h : x < 18446744073709551616) : bits .and .u64 (x : Int) 1 = ((x % 2 : Nat) : Int) := by
  rw [show (1 : Int) = ((1 : Nat) : Int) from rfl, u64_and_nat _ _ h (by decide), Nat.and_one_is_mod]

set_option maxRecDepth 100000 in
set_option maxHeartbeats 2000000 in
theorem scaled_any (w : World) (v1 v2 : Value) (A B : Nat) (k : Int) (h1 : Rd w v1 (words A)) (h2 : Rd w v2 (words B)) (hA : (words A).length ≤ 300) (hB : (words B).length ≤ 300) (hB0 : B ≠ 0) (hk0 : -500 ≤ k) (hk1 : k ≤ 500) :
    Calls Tryz.prog 54 #[v1, v2, .int .i64 k] w fun x w' => x = .returned (.string (decS (rne (A * 10 ^ k.toNat) (B * 10 ^ (-k).toNat)))) ∧ Below w.heap.size w w' := by
  have HAB := Aside0.mk (And.intro hA hB)
  have HT1 := Aside0.mk (words_ten k.toNat)
  have HT2 := Aside0.mk (words_ten (-k).toNat)
  have HKB := Aside0.mk (show k.toNat ≤ 500 ∧ (-k).toNat ≤ 500 by omega)
  obtain ⟨A', hA'⟩ : ∃ A', A' = A * 10 ^ k.toNat := ⟨_, rfl⟩
  obtain ⟨B', hB'⟩ : ∃ B', B' = B * 10 ^ (-k).toNat := ⟨_, rfl⟩
  rw [← hA', ← hB']
  have HWA := Aside0.mk (show (words A').length ≤ 400 by have := words_len_mul A (10 ^ k.toNat); have := HT1.out; have := HKB.out; rw [hA']; omega)
  have HWB := Aside0.mk (show (words B').length ≤ 400 by have := words_len_mul B (10 ^ (-k).toNat); have := HT2.out; have := HKB.out; rw [hB']; omega)
  have HB0 := Aside0.mk (show B' ≠ 0 by rw [hB']; exact Nat.mul_ne_zero hB0 (Nat.ne_of_gt (Nat.pow_pos (by decide))))
  go_enter Tryz.func54, Tryz.ntmps54
  by_cases hk : 0 ≤ k
  · obtain ⟨n, rfl⟩ := Int.eq_ofNat_of_zero_le hk
    rw [Int.toNat_natCast] at hA' HT1
    rw [show (-(n : Int)).toNat = 0 by omega, Nat.pow_zero, Nat.mul_one] at hB'
    have hn500 : n ≤ 500 := by omega
    go_wp2_with fail
    refine (power_any w n (by omega)).mono ?_
    rintro x w1 ⟨v3, rfl, hr1, hb1⟩
    have HR1 := Aside0.mk hr1
    have HB1 := Aside0.mk hb1
    clear hr1 hb1
    go_wp2_with fail
    refine (rmul_any w1 _ _ A (10 ^ n) (h1.below HB1.out) HR1.out (by omega) (by have := HT1.out; have := HKB.out; omega)).mono ?_
    rintro x w2 ⟨v4, rfl, hr2, hb2⟩
    have HRA := Aside0.mk hr2
    have HB2 := Aside0.mk (HB1.out.trans (hb2.mono HB1.out.size))
    have HRB := Aside0.mk (h2.below HB2.out)
    rw [← hA'] at HRA
    rw [← hB'] at HRB
    clear hr2 hb2 hA' hB' h1 h2 hB0
    go_wp2_with fail
    refine (rdivide_any w2 _ _ A' B' HRA.out HRB.out (by have := HWA.out; omega) (by have := HWB.out; omega) HB0.out).mono ?_
    rintro x w3 ⟨v5, v6, rfl, hq, hr, hb3⟩
    have HQ3 := Aside0.mk hq
    have HR3 := Aside0.mk hr
    have HB3 := Aside0.mk (HB2.out.trans (hb3.mono HB2.out.size))
    have HRB3 := Aside0.mk (HRB.out.below hb3)
    have HWQ := Aside0.mk (show (words (A' / B')).length ≤ 400 from Nat.le_trans (words_len_mono (Nat.div_le_self _ _)) HWA.out)
    have HWR := Aside0.mk (show (words (A' % B')).length ≤ 400 from Nat.le_trans (words_len_mono (Nat.mod_le _ _)) HWA.out)
    clear hq hr hb3
    go_wp2_with fail
    refine (radd_any w3 _ _ _ _ HR3.out HR3.out (by have := HWR.out; omega) (by have := HWR.out; omega)).mono ?_
    rintro x w4 ⟨v7, rfl, hr4, hb4⟩
    have HR4 := Aside0.mk hr4
    have HB4 := Aside0.mk (HB3.out.trans (hb4.mono HB3.out.size))
    have HQ4 := Aside0.mk (HQ3.out.below hb4)
    have HRB4 := Aside0.mk (HRB3.out.below hb4)
    clear hr4 hb4
    go_wp2_with fail
    refine (rcompare_any w4 _ _ _ _ HR4.out HRB4.out).mono ?_
    obtain ⟨R, hR⟩ : ∃ R, R = A' % B' := ⟨_, rfl⟩
    have HRR := Aside0.mk hR
    rw [← hR]
    clear hR
    rcases Nat.lt_trichotomy (R + R) B' with hlt | heq | hgt
    · have hcmp : cmpN (R + R) B' = -1 := by rw [cmpN, if_pos hlt]
      have HRN := Aside0.mk (show rne A' B' = A' / B' by unfold rne; rw [← HRR.out, if_neg (by omega)])
      rw [hcmp]
      rintro x w5 ⟨rfl, hb5⟩
      have HB5 := Aside0.mk (HB4.out.trans (hb5.mono HB4.out.size))
      have HQ5 := Aside0.mk (HQ4.out.below hb5)
      clear hb5
      clear hcmp hlt
      go_wp2_with fail
      refine (rtext_any w5 _ _ HQ5.out (by have := HWQ.out; omega)).mono ?_
      rw [← HRN.out]
      rintro x w9 ⟨rfl, hb9⟩
      have HB9 := Aside0.mk (HB5.out.trans (hb9.mono HB5.out.size))
      clear hb9
      go_wp2_with fail
      go_ret
      exact ⟨rfl, HB9.out⟩
    · have hcmp : cmpN (R + R) B' = 0 := by rw [cmpN, if_neg (by omega), if_pos heq]
      rw [hcmp]
      rintro x w5 ⟨rfl, hb5⟩
      have HB5 := Aside0.mk (HB4.out.trans (hb5.mono HB4.out.size))
      have HQ5 := Aside0.mk (HQ4.out.below hb5)
      clear hb5
      clear hcmp
      go_wp2_with fail
      refine (rlow_any w5 _ _ HQ5.out (by have := HWQ.out; omega)).mono ?_
      obtain ⟨x0, hx0⟩ : ∃ x0, x0 = A' / B' % 18446744073709551616 := ⟨_, rfl⟩
      rw [← hx0]
      rintro x w5' ⟨rfl, rfl⟩
      by_cases hodd : x0 % 2 = 1
      · have hand : bits .and .u64 (x0 : Int) 1 = 1 := by rw [and_one x0 (by omega), hodd]; rfl
        have HRN := Aside0.mk (show rne A' B' = A' / B' + 1 by unfold rne; rw [← HRR.out, if_pos (.inr ⟨by omega, by omega⟩)])
        clear hx0 hodd heq
        go_wp2_with fail
        refine (rof_any w5' 1 (by decide)).mono ?_
        rintro x w6 ⟨v8, rfl, hr6, hb6⟩
        have HR6 := Aside0.mk hr6
        have HQ6 := Aside0.mk (HQ5.out.below hb6)
        have HB6 := Aside0.mk (HB5.out.trans (hb6.mono HB5.out.size))
        clear hr6 hb6
        go_wp2_with fail
        refine (radd_any w6 _ _ _ 1 HQ6.out HR6.out (by have := HWQ.out; omega) (by rw [words_one (by decide) (by decide)]; simp)).mono ?_
        rintro x w7 ⟨v9, rfl, hr7, hb7⟩
        have HR7 := Aside0.mk hr7
        have HB7 := Aside0.mk (HB6.out.trans (hb7.mono HB6.out.size))
        have HW7 := Aside0.mk (words_succ_len (a := A' / B') (b := A' / B' + 1) (Nat.le_refl _))
        clear hr7 hb7
        go_wp2_with fail
        refine (rtext_any w7 _ _ HR7.out (by have := HWQ.out; have := HW7.out; omega)).mono ?_
        rw [← HRN.out]
        rintro x w9 ⟨rfl, hb9⟩
        have HB9 := Aside0.mk (HB7.out.trans (hb9.mono HB7.out.size))
        clear hb9
        go_wp2_with fail
        go_ret
        exact ⟨rfl, HB9.out⟩
      · have hand : bits .and .u64 (x0 : Int) 1 = 0 := by rw [and_one x0 (by omega), show x0 % 2 = 0 by omega]; rfl
        have HRN := Aside0.mk (show rne A' B' = A' / B' by unfold rne; rw [← HRR.out, if_neg (by omega)])
        clear hx0 hodd heq
        go_wp2_with fail
        refine (rtext_any w5' _ _ HQ5.out (by have := HWQ.out; omega)).mono ?_
        rw [← HRN.out]
        rintro x w9 ⟨rfl, hb9⟩
        have HB9 := Aside0.mk (HB5.out.trans (hb9.mono HB5.out.size))
        clear hb9
        go_wp2_with fail
        go_ret
        exact ⟨rfl, HB9.out⟩
    · have hcmp : cmpN (R + R) B' = 1 := by rw [cmpN, if_neg (by omega), if_neg (by omega)]
      have HRN := Aside0.mk (show rne A' B' = A' / B' + 1 by unfold rne; rw [← HRR.out, if_pos (.inl (by omega))])
      rw [hcmp]
      rintro x w5 ⟨rfl, hb5⟩
      have HB5 := Aside0.mk (HB4.out.trans (hb5.mono HB4.out.size))
      have HQ5 := Aside0.mk (HQ4.out.below hb5)
      clear hb5
      clear hcmp hgt
      go_wp2_with fail
      refine (rof_any w5 1 (by decide)).mono ?_
      rintro x w6 ⟨v8, rfl, hr6, hb6⟩
      have HR6 := Aside0.mk hr6
      have HQ6 := Aside0.mk (HQ5.out.below hb6)
      have HB6 := Aside0.mk (HB5.out.trans (hb6.mono HB5.out.size))
      clear hr6 hb6
      go_wp2_with fail
      refine (radd_any w6 _ _ _ 1 HQ6.out HR6.out (by have := HWQ.out; omega) (by rw [words_one (by decide) (by decide)]; simp)).mono ?_
      rintro x w7 ⟨v9, rfl, hr7, hb7⟩
      have HR7 := Aside0.mk hr7
      have HB7 := Aside0.mk (HB6.out.trans (hb7.mono HB6.out.size))
      have HW7 := Aside0.mk (words_succ_len (a := A' / B') (b := A' / B' + 1) (Nat.le_refl _))
      clear hr7 hb7
      go_wp2_with fail
      refine (rtext_any w7 _ _ HR7.out (by have := HWQ.out; have := HW7.out; omega)).mono ?_
      rw [← HRN.out]
      rintro x w9 ⟨rfl, hb9⟩
      have HB9 := Aside0.mk (HB7.out.trans (hb9.mono HB7.out.size))
      clear hb9
      go_wp2_with fail
      go_ret
      exact ⟨rfl, HB9.out⟩
  · obtain ⟨n, hn⟩ : ∃ n : Nat, -k = (n : Int) := ⟨(-k).toNat, by omega⟩
    have ek : (-k).toNat = n := by omega
    rw [show k.toNat = 0 by omega, Nat.pow_zero, Nat.mul_one] at hA'
    rw [ek] at hB' HT2
    have hn500 : n ≤ 500 := by omega
    have hneg : IntKind.i64.wrap (-k) = (n : Int) := by rw [IntKind.wrap_i64]; omega
    clear hn ek
    go_wp2_with fail
    refine (power_any w n (by omega)).mono ?_
    rintro x w1 ⟨v3, rfl, hr1, hb1⟩
    have HR1 := Aside0.mk hr1
    have HB1 := Aside0.mk hb1
    clear hr1 hb1
    go_wp2_with fail
    refine (rmul_any w1 _ _ B (10 ^ n) (h2.below HB1.out) HR1.out (by omega) (by have := HT2.out; have := HKB.out; omega)).mono ?_
    rintro x w2 ⟨v4, rfl, hr2, hb2⟩
    have HRB := Aside0.mk hr2
    have HB2 := Aside0.mk (HB1.out.trans (hb2.mono HB1.out.size))
    have HRA := Aside0.mk (h1.below HB2.out)
    rw [← hA'] at HRA
    rw [← hB'] at HRB
    clear hr2 hb2 hA' hB' h1 h2 hB0
    go_wp2_with fail
    refine (rdivide_any w2 _ _ A' B' HRA.out HRB.out (by have := HWA.out; omega) (by have := HWB.out; omega) HB0.out).mono ?_
    rintro x w3 ⟨v5, v6, rfl, hq, hr, hb3⟩
    have HQ3 := Aside0.mk hq
    have HR3 := Aside0.mk hr
    have HB3 := Aside0.mk (HB2.out.trans (hb3.mono HB2.out.size))
    have HRB3 := Aside0.mk (HRB.out.below hb3)
    have HWQ := Aside0.mk (show (words (A' / B')).length ≤ 400 from Nat.le_trans (words_len_mono (Nat.div_le_self _ _)) HWA.out)
    have HWR := Aside0.mk (show (words (A' % B')).length ≤ 400 from Nat.le_trans (words_len_mono (Nat.mod_le _ _)) HWA.out)
    clear hq hr hb3
    go_wp2_with fail
    refine (radd_any w3 _ _ _ _ HR3.out HR3.out (by have := HWR.out; omega) (by have := HWR.out; omega)).mono ?_
    rintro x w4 ⟨v7, rfl, hr4, hb4⟩
    have HR4 := Aside0.mk hr4
    have HB4 := Aside0.mk (HB3.out.trans (hb4.mono HB3.out.size))
    have HQ4 := Aside0.mk (HQ3.out.below hb4)
    have HRB4 := Aside0.mk (HRB3.out.below hb4)
    clear hr4 hb4
    go_wp2_with fail
    refine (rcompare_any w4 _ _ _ _ HR4.out HRB4.out).mono ?_
    obtain ⟨R, hR⟩ : ∃ R, R = A' % B' := ⟨_, rfl⟩
    have HRR := Aside0.mk hR
    rw [← hR]
    clear hR
    rcases Nat.lt_trichotomy (R + R) B' with hlt | heq | hgt
    · have hcmp : cmpN (R + R) B' = -1 := by rw [cmpN, if_pos hlt]
      have HRN := Aside0.mk (show rne A' B' = A' / B' by unfold rne; rw [← HRR.out, if_neg (by omega)])
      rw [hcmp]
      rintro x w5 ⟨rfl, hb5⟩
      have HB5 := Aside0.mk (HB4.out.trans (hb5.mono HB4.out.size))
      have HQ5 := Aside0.mk (HQ4.out.below hb5)
      clear hb5
      clear hcmp hlt
      go_wp2_with fail
      refine (rtext_any w5 _ _ HQ5.out (by have := HWQ.out; omega)).mono ?_
      rw [← HRN.out]
      rintro x w9 ⟨rfl, hb9⟩
      have HB9 := Aside0.mk (HB5.out.trans (hb9.mono HB5.out.size))
      clear hb9
      go_wp2_with fail
      go_ret
      exact ⟨rfl, HB9.out⟩
    · have hcmp : cmpN (R + R) B' = 0 := by rw [cmpN, if_neg (by omega), if_pos heq]
      rw [hcmp]
      rintro x w5 ⟨rfl, hb5⟩
      have HB5 := Aside0.mk (HB4.out.trans (hb5.mono HB4.out.size))
      have HQ5 := Aside0.mk (HQ4.out.below hb5)
      clear hb5
      clear hcmp
      go_wp2_with fail
      refine (rlow_any w5 _ _ HQ5.out (by have := HWQ.out; omega)).mono ?_
      obtain ⟨x0, hx0⟩ : ∃ x0, x0 = A' / B' % 18446744073709551616 := ⟨_, rfl⟩
      rw [← hx0]
      rintro x w5' ⟨rfl, rfl⟩
      by_cases hodd : x0 % 2 = 1
      · have hand : bits .and .u64 (x0 : Int) 1 = 1 := by rw [and_one x0 (by omega), hodd]; rfl
        have HRN := Aside0.mk (show rne A' B' = A' / B' + 1 by unfold rne; rw [← HRR.out, if_pos (.inr ⟨by omega, by omega⟩)])
        clear hx0 hodd heq
        go_wp2_with fail
        refine (rof_any w5' 1 (by decide)).mono ?_
        rintro x w6 ⟨v8, rfl, hr6, hb6⟩
        have HR6 := Aside0.mk hr6
        have HQ6 := Aside0.mk (HQ5.out.below hb6)
        have HB6 := Aside0.mk (HB5.out.trans (hb6.mono HB5.out.size))
        clear hr6 hb6
        go_wp2_with fail
        refine (radd_any w6 _ _ _ 1 HQ6.out HR6.out (by have := HWQ.out; omega) (by rw [words_one (by decide) (by decide)]; simp)).mono ?_
        rintro x w7 ⟨v9, rfl, hr7, hb7⟩
        have HR7 := Aside0.mk hr7
        have HB7 := Aside0.mk (HB6.out.trans (hb7.mono HB6.out.size))
        have HW7 := Aside0.mk (words_succ_len (a := A' / B') (b := A' / B' + 1) (Nat.le_refl _))
        clear hr7 hb7
        go_wp2_with fail
        refine (rtext_any w7 _ _ HR7.out (by have := HWQ.out; have := HW7.out; omega)).mono ?_
        rw [← HRN.out]
        rintro x w9 ⟨rfl, hb9⟩
        have HB9 := Aside0.mk (HB7.out.trans (hb9.mono HB7.out.size))
        clear hb9
        go_wp2_with fail
        go_ret
        exact ⟨rfl, HB9.out⟩
      · have hand : bits .and .u64 (x0 : Int) 1 = 0 := by rw [and_one x0 (by omega), show x0 % 2 = 0 by omega]; rfl
        have HRN := Aside0.mk (show rne A' B' = A' / B' by unfold rne; rw [← HRR.out, if_neg (by omega)])
        clear hx0 hodd heq
        go_wp2_with fail
        refine (rtext_any w5' _ _ HQ5.out (by have := HWQ.out; omega)).mono ?_
        rw [← HRN.out]
        rintro x w9 ⟨rfl, hb9⟩
        have HB9 := Aside0.mk (HB5.out.trans (hb9.mono HB5.out.size))
        clear hb9
        go_wp2_with fail
        go_ret
        exact ⟨rfl, HB9.out⟩
    · have hcmp : cmpN (R + R) B' = 1 := by rw [cmpN, if_neg (by omega), if_neg (by omega)]
      have HRN := Aside0.mk (show rne A' B' = A' / B' + 1 by unfold rne; rw [← HRR.out, if_pos (.inl (by omega))])
      rw [hcmp]
      rintro x w5 ⟨rfl, hb5⟩
      have HB5 := Aside0.mk (HB4.out.trans (hb5.mono HB4.out.size))
      have HQ5 := Aside0.mk (HQ4.out.below hb5)
      clear hb5
      clear hcmp hgt
      go_wp2_with fail
      refine (rof_any w5 1 (by decide)).mono ?_
      rintro x w6 ⟨v8, rfl, hr6, hb6⟩
      have HR6 := Aside0.mk hr6
      have HQ6 := Aside0.mk (HQ5.out.below hb6)
      have HB6 := Aside0.mk (HB5.out.trans (hb6.mono HB5.out.size))
      clear hr6 hb6
      go_wp2_with fail
      refine (radd_any w6 _ _ _ 1 HQ6.out HR6.out (by have := HWQ.out; omega) (by rw [words_one (by decide) (by decide)]; simp)).mono ?_
      rintro x w7 ⟨v9, rfl, hr7, hb7⟩
      have HR7 := Aside0.mk hr7
      have HB7 := Aside0.mk (HB6.out.trans (hb7.mono HB6.out.size))
      have HW7 := Aside0.mk (words_succ_len (a := A' / B') (b := A' / B' + 1) (Nat.le_refl _))
      clear hr7 hb7
      go_wp2_with fail
      refine (rtext_any w7 _ _ HR7.out (by have := HWQ.out; have := HW7.out; omega)).mono ?_
      rw [← HRN.out]
      rintro x w9 ⟨rfl, hb9⟩
      have HB9 := Aside0.mk (HB7.out.trans (hb9.mono HB7.out.size))
      clear hb9
      go_wp2_with fail
      go_ret
      exact ⟨rfl, HB9.out⟩

end Go.Proofs.YthknbknmlnnhcaaGreatDoor
