/- Walks: decimal.near. -/
import Derived.Test.YthknbknmlnnhcaaGreatDoorXd
namespace Go.Proofs.YthknbknmlnnhcaaGreatDoor
open Go.RowKit Go.Proofs.YthknbknmlnnhcaaGreatDoorW.PrintWords Bob
set_option linter.unusedVariables false
set_option linter.unusedSimpArgs false

theorem words_head (N : Nat) : (words N).getD 0 0 = ((N % 4294967296 : Nat) : Int) := by
  by_cases h : N = 0
  · subst h; rw [words_zero]; rfl
  · rw [words_pos h]
    rfl

set_option maxRecDepth 100000 in
set_option maxHeartbeats 2000000 in
theorem near_any (w : World) (v : Value) (M : Nat) (e n x : Int) (h : Rd w v (words M)) (hM : (words M).length ≤ 10) (he0 : -1100 ≤ e) (he1 : e ≤ 1100) (hn0 : 0 ≤ n) (hn1 : n ≤ 40) (hx0 : -400 ≤ x) (hx1 : x ≤ 400) :
    Calls Tryz.prog 48 #[v, .int .i64 e, .int .i64 n, .int .i64 x] w fun y w' => y = .returned (.string (decS (rne (M * 10 ^ (n - x).toNat * 2 ^ e.toNat) (10 ^ (x - n).toNat * 2 ^ (-e).toNat)))) ∧ Below w.heap.size w w' := by
  obtain ⟨p, hp, hp2⟩ : ∃ p : Nat, max e 0 = (p : Int) ∧ p = e.toNat := ⟨e.toNat, by omega, rfl⟩
  obtain ⟨q, hq, hq2⟩ : ∃ q : Nat, max (-e) 0 = (q : Int) ∧ q = (-e).toNat := ⟨(-e).toNat, by omega, rfl⟩
  have hpb : p ≤ 1100 := by omega
  have hqb : q ≤ 1100 := by omega
  have HMW := Aside0.mk hM
  rw [← hp2, ← hq2]
  have HT1 := Aside0.mk (words_ten (n - x).toNat)
  have HT2 := Aside0.mk (words_ten (x - n).toNat)
  have HKB := Aside0.mk (show (n - x).toNat ≤ 500 ∧ (x - n).toNat ≤ 500 by omega)
  clear hp2 hq2
  obtain ⟨A, hA⟩ : ∃ A, A = M * 10 ^ (n - x).toNat * 2 ^ p := ⟨_, rfl⟩
  obtain ⟨B, hB⟩ : ∃ B, B = 10 ^ (x - n).toNat * 2 ^ q := ⟨_, rfl⟩
  rw [← hA, ← hB]
  have HAA := Aside0.mk hA
  have HBB := Aside0.mk hB
  clear hA hB
  go_enter Tryz.func48, Tryz.ntmps48
  go_wp2_with fail
  refine (ten_any w (n - x) (by omega) (by omega)).mono ?_
  rintro y w1 ⟨v1, rfl, hr1, hb1⟩
  have HR1 := Aside0.mk hr1
  have HB1 := Aside0.mk hb1
  clear hr1 hb1
  go_wp2_with fail
  refine (times_any w1 _ _ M (10 ^ (n - x).toNat) (h.below HB1.out) HR1.out (by have := HMW.out; omega) (by have := HT1.out; have := HKB.out; omega)).mono ?_
  rintro y w2 ⟨v2, rfl, hr2, hb2⟩
  have HR2 := Aside0.mk hr2
  have HB2 := Aside0.mk (HB1.out.trans (hb2.mono HB1.out.size))
  have HW2 := Aside0.mk (show (words (M * 10 ^ (n - x).toNat)).length ≤ 100 by have := words_len_mul M (10 ^ (n - x).toNat); have := HMW.out; have := HT1.out; have := HKB.out; omega)
  clear hr2 hb2
  go_wp2_with fail
  refine (shifted_l w2 _ (M * 10 ^ (n - x).toNat) p HR2.out (by have := HW2.out; omega) (by omega)).mono ?_
  rintro y w3 ⟨v3, rfl, hr3, hb3⟩
  have HR3 := Aside0.mk hr3
  have HB3 := Aside0.mk (HB2.out.trans (hb3.mono HB2.out.size))
  have HW3 := Aside0.mk (show (words (M * 10 ^ (n - x).toNat * 2 ^ p)).length ≤ 200 by have := words_len_mul (M * 10 ^ (n - x).toNat) (2 ^ p); have := words_two p; have := HW2.out; omega)
  clear hr3 hb3
  go_wp2_with fail
  refine (ten_any w3 (x - n) (by omega) (by omega)).mono ?_
  rintro y w4 ⟨v4, rfl, hr4, hb4⟩
  have HR4 := Aside0.mk hr4
  have HR34 := Aside0.mk (HR3.out.below hb4)
  have HB4 := Aside0.mk (HB3.out.trans (hb4.mono HB3.out.size))
  clear hr4 hb4
  go_wp2_with fail
  refine (shifted_l w4 _ (10 ^ (x - n).toNat) q HR4.out (by have := HT2.out; have := HKB.out; omega) (by omega)).mono ?_
  rintro y w5 ⟨v5, rfl, hr5, hb5⟩
  have HR5 := Aside0.mk hr5
  have HR35 := Aside0.mk (HR34.out.below hb5)
  have HB5 := Aside0.mk (HB4.out.trans (hb5.mono HB4.out.size))
  have HW5 := Aside0.mk (show (words (10 ^ (x - n).toNat * 2 ^ q)).length ≤ 200 by have := words_len_mul (10 ^ (x - n).toNat) (2 ^ q); have := words_two q; have := HT2.out; have := HKB.out; omega)
  clear hr5 hb5
  have HBN := Aside0.mk (show 10 ^ (x - n).toNat * 2 ^ q ≠ 0 from Nat.mul_ne_zero (Nat.ne_of_gt (Nat.pow_pos (by decide))) (Nat.ne_of_gt (Nat.pow_pos (by decide))))
  rw [← HAA.out] at HR35 HW3
  rw [← HBB.out] at HR5 HW5 HBN
  clear HAA HBB HR1 HR2 HW2 HR3 HR4 HR34 HT1 HT2 HKB HMW h hM he0 he1 hn0 hn1 hx0 hx1 hp hq hpb hqb
  go_wp2_with fail
  refine (divide_any w5 _ _ A B HR35.out HR5.out (by have := HW3.out; omega) (by have := HW5.out; omega) HBN.out).mono ?_
  rintro y w6 ⟨v6, v7, rfl, hq6, hr6, hb6⟩
  have HQ6 := Aside0.mk hq6
  have HR6 := Aside0.mk hr6
  have HB6 := Aside0.mk (HB5.out.trans (hb6.mono HB5.out.size))
  have HBY6 := Aside0.mk (HR5.out.below hb6)
  have HWQ := Aside0.mk (show (words (A / B)).length ≤ 400 from Nat.le_trans (words_len_mono (Nat.div_le_self _ _)) (by have := HW3.out; omega))
  have HWR := Aside0.mk (show (words (A % B)).length ≤ 400 from Nat.le_trans (words_len_mono (Nat.mod_le _ _)) (by have := HW3.out; omega))
  clear hq6 hr6 hb6
  obtain ⟨n6, A6, c6, rfl, HL6, hc6, hm6, HC6⟩ := HQ6.out.elim
  have HMX := Aside0.mk hm6
  obtain ⟨Q, hQ⟩ : ∃ Q, Q = A / B := ⟨_, rfl⟩
  obtain ⟨R, hR⟩ : ∃ R, R = A % B := ⟨_, rfl⟩
  have HQQ := Aside0.mk hQ
  have HRR := Aside0.mk hR
  rw [← hQ] at HQ6 HWQ HL6 HC6
  rw [← hR] at HR6 HWR
  clear hQ hR
  cases n6 with
  | zero =>
    have e0 : Q = 0 := words_len_zero.1 HL6.out.symm
    have HODD : Aside0 ((false = true) ↔ (Q % 2 = 1)) := ⟨by rw [e0]; decide⟩
    have HODD : Aside0 (Q % 2 = 0) := ⟨by rw [e0]⟩
    clear e0
    go_wp2_with fail
    refine (shifted_l w6 _ R 1 HR6.out (by have := HWR.out; omega) (by omega)).mono ?_
    rintro y w7 ⟨v8, rfl, hr7, hb7⟩
    rw [show R * 2 ^ 1 = R + R by omega] at hr7
    have HR7 := Aside0.mk hr7
    have HQ7 := Aside0.mk (HQ6.out.below hb7)
    have HBY7 := Aside0.mk (HBY6.out.below hb7)
    have HB7 := Aside0.mk (HB6.out.trans (hb7.mono HB6.out.size))
    clear hr7 hb7
    go_wp2_with fail
    refine (compare_any w7 _ _ _ _ (dg_words _) (dg_words _) HR7.out HBY7.out).mono ?_
    rw [val_words, val_words]
    rcases Nat.lt_trichotomy (R + R) B with hlt | heq | hgt
    · rw [show cmpN (R + R) B = -1 by rw [cmpN, if_pos hlt]]
      rintro y w8 ⟨rfl, hb8⟩
      have HB8 := Aside0.mk (HB7.out.trans (hb8.mono HB7.out.size))
      have HQ8 := Aside0.mk (HQ7.out.below hb8)
      have HRN := Aside0.mk (show rne A B = Q by unfold rne; rw [← HRR.out, ← HQQ.out, if_neg (by omega)])
      clear hlt hb8
      go_wp2_with fail
      refine (text_any w8 _ _ HQ8.out (by have := HWQ.out; omega)).mono ?_
      rintro y w9 ⟨rfl, hb9⟩
      have HB9 := Aside0.mk (HB8.out.trans (hb9.mono HB8.out.size))
      clear hb9
      go_wp2_with fail
      go_ret
      exact ⟨by rw [HRN.out]; rfl, HB9.out⟩
    · rw [show cmpN (R + R) B = 0 by rw [cmpN, if_neg (by omega), if_pos heq]]
      rintro y w8 ⟨rfl, hb8⟩
      have HB8 := Aside0.mk (HB7.out.trans (hb8.mono HB7.out.size))
      have HQ8 := Aside0.mk (HQ7.out.below hb8)
      have HRN := Aside0.mk (show rne A B = Q by unfold rne; rw [← HRR.out, ← HQQ.out, if_neg (by have := HODD.out; omega)])
      clear heq hb8
      go_wp2_with fail
      refine (text_any w8 _ _ HQ8.out (by have := HWQ.out; omega)).mono ?_
      rintro y w9 ⟨rfl, hb9⟩
      have HB9 := Aside0.mk (HB8.out.trans (hb9.mono HB8.out.size))
      clear hb9
      go_wp2_with fail
      go_ret
      exact ⟨by rw [HRN.out]; rfl, HB9.out⟩
    · rw [show cmpN (R + R) B = 1 by rw [cmpN, if_neg (by omega), if_neg (by omega)]]
      rintro y w8 ⟨rfl, hb8⟩
      have HB8 := Aside0.mk (HB7.out.trans (hb8.mono HB7.out.size))
      have HQ8 := Aside0.mk (HQ7.out.below hb8)
      have HRN := Aside0.mk (show rne A B = Q + 1 by unfold rne; rw [← HRR.out, ← HQQ.out, if_pos (.inl (by omega))])
      clear hgt hb8
      go_wp2_with fail
      refine (add_any _ _ _ _ [1] (dg_words _) (dg_cons.2 ⟨by decide, dg_nil⟩) (HQ8.out.below (below_alloc (Below.refl _ _) _)) (Ow.lit w8 w8.heap.size [1] (Nat.le_refl _) (by simp)).reads (by have := HWQ.out; omega) (by simp)).mono ?_
      rw [val_words, show val [1] = 1 from rfl]
      rintro y w9 ⟨v10, rfl, hr9, hb9⟩
      have HR9 := Aside0.mk hr9
      have HB9 := Aside0.mk (HB8.out.trans ((below_alloc (Below.refl w8.heap.size w8) _).trans (hb9.mono (by simp)) |>.mono HB8.out.size))
      clear hr9 hb9
      go_wp2_with fail
      refine (text_any w9 _ _ HR9.out (by have := HWQ.out; have := words_succ_len (Nat.le_refl (Q + 1)); omega)).mono ?_
      rintro y w10 ⟨rfl, hb10⟩
      have HB10 := Aside0.mk (HB9.out.trans (hb10.mono HB9.out.size))
      clear hb10
      go_wp2_with fail
      go_ret
      exact ⟨by rw [HRN.out]; rfl, HB10.out⟩
  | succ m6 =>
    obtain ⟨ad, X, rfl, HX, hx⟩ := C_at HC6.out 0 (Nat.succ_pos _)
    have hx2 : X = ((Q % 4294967296 : Nat) : Int) := by rw [← HX.out]; exact words_head Q
    obtain ⟨x0, hx0⟩ : ∃ x0, x0 = Q % 4294967296 := ⟨_, rfl⟩
    rw [← hx0] at hx2
    subst hx2
    have hx' : w6.cell? ad = some (.int .u32 (x0 : Int)) := by simpa [Addr.add] using hx
    have hx00 : x0 < 4294967296 := by omega
    by_cases hodd : x0 % 2 = 1
    · have hand : bits .and .u32 (x0 : Int) 1 = 1 := by rw [show (1 : Int) = ((1 : Nat) : Int) from rfl, u32_and_nat _ _ hx00 (by decide), Nat.and_one_is_mod, hodd]
      have HODD : Aside0 (Q % 2 = 1) := ⟨by omega⟩
      clear hx0 hx00 hodd hx
      go_wp2_with fail
      refine (shifted_l w6 _ R 1 HR6.out (by have := HWR.out; omega) (by omega)).mono ?_
      rintro y w7 ⟨v8, rfl, hr7, hb7⟩
      rw [show R * 2 ^ 1 = R + R by omega] at hr7
      have HR7 := Aside0.mk hr7
      have HQ7 := Aside0.mk (HQ6.out.below hb7)
      have HBY7 := Aside0.mk (HBY6.out.below hb7)
      have HB7 := Aside0.mk (HB6.out.trans (hb7.mono HB6.out.size))
      clear hr7 hb7
      go_wp2_with fail
      refine (compare_any w7 _ _ _ _ (dg_words _) (dg_words _) HR7.out HBY7.out).mono ?_
      rw [val_words, val_words]
      rcases Nat.lt_trichotomy (R + R) B with hlt | heq | hgt
      · rw [show cmpN (R + R) B = -1 by rw [cmpN, if_pos hlt]]
        rintro y w8 ⟨rfl, hb8⟩
        have HB8 := Aside0.mk (HB7.out.trans (hb8.mono HB7.out.size))
        have HQ8 := Aside0.mk (HQ7.out.below hb8)
        have HRN := Aside0.mk (show rne A B = Q by unfold rne; rw [← HRR.out, ← HQQ.out, if_neg (by omega)])
        clear hlt hb8
        go_wp2_with fail
        refine (text_any w8 _ _ HQ8.out (by have := HWQ.out; omega)).mono ?_
        rintro y w9 ⟨rfl, hb9⟩
        have HB9 := Aside0.mk (HB8.out.trans (hb9.mono HB8.out.size))
        clear hb9
        go_wp2_with fail
        go_ret
        exact ⟨by rw [HRN.out]; rfl, HB9.out⟩
      · rw [show cmpN (R + R) B = 0 by rw [cmpN, if_neg (by omega), if_pos heq]]
        rintro y w8 ⟨rfl, hb8⟩
        have HB8 := Aside0.mk (HB7.out.trans (hb8.mono HB7.out.size))
        have HQ8 := Aside0.mk (HQ7.out.below hb8)
        have HRN := Aside0.mk (show rne A B = Q + 1 by unfold rne; rw [← HRR.out, ← HQQ.out, if_pos (.inr ⟨by omega, HODD.out⟩)])
        clear heq hb8
        go_wp2_with fail
        refine (add_any _ _ _ _ [1] (dg_words _) (dg_cons.2 ⟨by decide, dg_nil⟩) (HQ8.out.below (below_alloc (Below.refl _ _) _)) (Ow.lit w8 w8.heap.size [1] (Nat.le_refl _) (by simp)).reads (by have := HWQ.out; omega) (by simp)).mono ?_
        rw [val_words, show val [1] = 1 from rfl]
        rintro y w9 ⟨v10, rfl, hr9, hb9⟩
        have HR9 := Aside0.mk hr9
        have HB9 := Aside0.mk (HB8.out.trans ((below_alloc (Below.refl w8.heap.size w8) _).trans (hb9.mono (by simp)) |>.mono HB8.out.size))
        clear hr9 hb9
        go_wp2_with fail
        refine (text_any w9 _ _ HR9.out (by have := HWQ.out; have := words_succ_len (Nat.le_refl (Q + 1)); omega)).mono ?_
        rintro y w10 ⟨rfl, hb10⟩
        have HB10 := Aside0.mk (HB9.out.trans (hb10.mono HB9.out.size))
        clear hb10
        go_wp2_with fail
        go_ret
        exact ⟨by rw [HRN.out]; rfl, HB10.out⟩
      · rw [show cmpN (R + R) B = 1 by rw [cmpN, if_neg (by omega), if_neg (by omega)]]
        rintro y w8 ⟨rfl, hb8⟩
        have HB8 := Aside0.mk (HB7.out.trans (hb8.mono HB7.out.size))
        have HQ8 := Aside0.mk (HQ7.out.below hb8)
        have HRN := Aside0.mk (show rne A B = Q + 1 by unfold rne; rw [← HRR.out, ← HQQ.out, if_pos (.inl (by omega))])
        clear hgt hb8
        go_wp2_with fail
        refine (add_any _ _ _ _ [1] (dg_words _) (dg_cons.2 ⟨by decide, dg_nil⟩) (HQ8.out.below (below_alloc (Below.refl _ _) _)) (Ow.lit w8 w8.heap.size [1] (Nat.le_refl _) (by simp)).reads (by have := HWQ.out; omega) (by simp)).mono ?_
        rw [val_words, show val [1] = 1 from rfl]
        rintro y w9 ⟨v10, rfl, hr9, hb9⟩
        have HR9 := Aside0.mk hr9
        have HB9 := Aside0.mk (HB8.out.trans ((below_alloc (Below.refl w8.heap.size w8) _).trans (hb9.mono (by simp)) |>.mono HB8.out.size))
        clear hr9 hb9
        go_wp2_with fail
        refine (text_any w9 _ _ HR9.out (by have := HWQ.out; have := words_succ_len (Nat.le_refl (Q + 1)); omega)).mono ?_
        rintro y w10 ⟨rfl, hb10⟩
        have HB10 := Aside0.mk (HB9.out.trans (hb10.mono HB9.out.size))
        clear hb10
        go_wp2_with fail
        go_ret
        exact ⟨by rw [HRN.out]; rfl, HB10.out⟩
    · have hand : bits .and .u32 (x0 : Int) 1 = 0 := by rw [show (1 : Int) = ((1 : Nat) : Int) from rfl, u32_and_nat _ _ hx00 (by decide), Nat.and_one_is_mod, show x0 % 2 = 0 by omega]; rfl
      have HODD : Aside0 (Q % 2 = 0) := ⟨by omega⟩
      clear hx0 hx00 hodd hx
      go_wp2_with fail
      refine (shifted_l w6 _ R 1 HR6.out (by have := HWR.out; omega) (by omega)).mono ?_
      rintro y w7 ⟨v8, rfl, hr7, hb7⟩
      rw [show R * 2 ^ 1 = R + R by omega] at hr7
      have HR7 := Aside0.mk hr7
      have HQ7 := Aside0.mk (HQ6.out.below hb7)
      have HBY7 := Aside0.mk (HBY6.out.below hb7)
      have HB7 := Aside0.mk (HB6.out.trans (hb7.mono HB6.out.size))
      clear hr7 hb7
      go_wp2_with fail
      refine (compare_any w7 _ _ _ _ (dg_words _) (dg_words _) HR7.out HBY7.out).mono ?_
      rw [val_words, val_words]
      rcases Nat.lt_trichotomy (R + R) B with hlt | heq | hgt
      · rw [show cmpN (R + R) B = -1 by rw [cmpN, if_pos hlt]]
        rintro y w8 ⟨rfl, hb8⟩
        have HB8 := Aside0.mk (HB7.out.trans (hb8.mono HB7.out.size))
        have HQ8 := Aside0.mk (HQ7.out.below hb8)
        have HRN := Aside0.mk (show rne A B = Q by unfold rne; rw [← HRR.out, ← HQQ.out, if_neg (by omega)])
        clear hlt hb8
        go_wp2_with fail
        refine (text_any w8 _ _ HQ8.out (by have := HWQ.out; omega)).mono ?_
        rintro y w9 ⟨rfl, hb9⟩
        have HB9 := Aside0.mk (HB8.out.trans (hb9.mono HB8.out.size))
        clear hb9
        go_wp2_with fail
        go_ret
        exact ⟨by rw [HRN.out]; rfl, HB9.out⟩
      · rw [show cmpN (R + R) B = 0 by rw [cmpN, if_neg (by omega), if_pos heq]]
        rintro y w8 ⟨rfl, hb8⟩
        have HB8 := Aside0.mk (HB7.out.trans (hb8.mono HB7.out.size))
        have HQ8 := Aside0.mk (HQ7.out.below hb8)
        have HRN := Aside0.mk (show rne A B = Q by unfold rne; rw [← HRR.out, ← HQQ.out, if_neg (by have := HODD.out; omega)])
        clear heq hb8
        go_wp2_with fail
        refine (text_any w8 _ _ HQ8.out (by have := HWQ.out; omega)).mono ?_
        rintro y w9 ⟨rfl, hb9⟩
        have HB9 := Aside0.mk (HB8.out.trans (hb9.mono HB8.out.size))
        clear hb9
        go_wp2_with fail
        go_ret
        exact ⟨by rw [HRN.out]; rfl, HB9.out⟩
      · rw [show cmpN (R + R) B = 1 by rw [cmpN, if_neg (by omega), if_neg (by omega)]]
        rintro y w8 ⟨rfl, hb8⟩
        have HB8 := Aside0.mk (HB7.out.trans (hb8.mono HB7.out.size))
        have HQ8 := Aside0.mk (HQ7.out.below hb8)
        have HRN := Aside0.mk (show rne A B = Q + 1 by unfold rne; rw [← HRR.out, ← HQQ.out, if_pos (.inl (by omega))])
        clear hgt hb8
        go_wp2_with fail
        refine (add_any _ _ _ _ [1] (dg_words _) (dg_cons.2 ⟨by decide, dg_nil⟩) (HQ8.out.below (below_alloc (Below.refl _ _) _)) (Ow.lit w8 w8.heap.size [1] (Nat.le_refl _) (by simp)).reads (by have := HWQ.out; omega) (by simp)).mono ?_
        rw [val_words, show val [1] = 1 from rfl]
        rintro y w9 ⟨v10, rfl, hr9, hb9⟩
        have HR9 := Aside0.mk hr9
        have HB9 := Aside0.mk (HB8.out.trans ((below_alloc (Below.refl w8.heap.size w8) _).trans (hb9.mono (by simp)) |>.mono HB8.out.size))
        clear hr9 hb9
        go_wp2_with fail
        refine (text_any w9 _ _ HR9.out (by have := HWQ.out; have := words_succ_len (Nat.le_refl (Q + 1)); omega)).mono ?_
        rintro y w10 ⟨rfl, hb10⟩
        have HB10 := Aside0.mk (HB9.out.trans (hb10.mono HB9.out.size))
        clear hb10
        go_wp2_with fail
        go_ret
        exact ⟨by rw [HRN.out]; rfl, HB10.out⟩

end Go.Proofs.YthknbknmlnnhcaaGreatDoor
