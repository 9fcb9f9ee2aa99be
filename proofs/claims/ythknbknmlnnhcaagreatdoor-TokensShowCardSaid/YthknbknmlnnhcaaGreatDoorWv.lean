/- Walks: decimal.reaches; bobbinref4.ge. -/
import Derived.Test.YthknbknmlnnhcaaGreatDoorWu
namespace Go.Proofs.YthknbknmlnnhcaaGreatDoor
open Go.RowKit Go.Proofs.YthknbknmlnnhcaaGreatDoorW.PrintWords Bob
set_option linter.unusedVariables false
set_option linter.unusedSimpArgs false

theorem words_len_mul (a b : Nat) : (words (a * b)).length ≤ (words a).length + (words b).length := by
  refine words_len_le ?_
  rw [Nat.pow_add]
  have h1 := words_lt a
  have h2 := words_lt b
  rcases Nat.eq_zero_or_pos b with h | h
  · subst h; rw [Nat.mul_zero]; exact Nat.mul_pos (Nat.pow_pos (by decide)) (Nat.pow_pos (by decide))
  · exact Nat.lt_of_lt_of_le (Nat.mul_lt_mul_of_pos_right h1 h) (Nat.mul_le_mul_left _ (Nat.le_of_lt h2))
theorem words_two (m : Nat) : (words (2 ^ m)).length ≤ m / 32 + 1 := by
  refine words_len_bl ?_
  have : bl (2 ^ m) ≤ m + 1 := bl_le_of (Nat.pow_lt_pow_right (by decide) (Nat.lt_succ_self _))
  omega
theorem cmpN_ge (a b : Nat) : decide (0 ≤ cmpN a b) = decide (b ≤ a) := by
  unfold cmpN
  by_cases h : a < b
  · rw [if_pos h, decide_eq_false (by omega), decide_eq_false (by omega)]
  · rw [if_neg h]
    split
    · rw [decide_eq_true (by omega), decide_eq_true (by omega)]
    · rw [decide_eq_true (by omega), decide_eq_true (by omega)]

set_option maxRecDepth 100000 in
set_option maxHeartbeats 800000 in
theorem reaches_any (w : World) (v : Value) (M : Nat) (e k : Int) (h : Rd w v (words M)) (hM : (words M).length ≤ 10) (he0 : -1100 ≤ e) (he1 : e ≤ 1100) (hk0 : -500 ≤ k) (hk1 : k ≤ 500) :
    Calls Tryz.prog 47 #[v, .int .i64 e, .int .i64 k] w fun x w' => x = .returned (.bool (decide (10 ^ k.toNat * 2 ^ (-e).toNat ≤ M * 10 ^ (-k).toNat * 2 ^ e.toNat))) ∧ Below w.heap.size w w' := by
  obtain ⟨p, hp, hp2⟩ : ∃ p : Nat, max e 0 = (p : Int) ∧ p = e.toNat := ⟨e.toNat, by omega, rfl⟩
  obtain ⟨q, hq, hq2⟩ : ∃ q : Nat, max (-e) 0 = (q : Int) ∧ q = (-e).toNat := ⟨(-e).toNat, by omega, rfl⟩
  have hpb : p ≤ 1100 := by omega
  have hqb : q ≤ 1100 := by omega
  have HMW := Aside0.mk hM
  rw [← hp2, ← hq2]
  have HT1 := Aside0.mk (words_ten k.toNat)
  have HT2 := Aside0.mk (words_ten (-k).toNat)
  have HKB := Aside0.mk (show k.toNat ≤ 500 ∧ (-k).toNat ≤ 500 by omega)
  clear hp2 hq2
  go_enter Tryz.func47, Tryz.ntmps47
  go_wp2_with fail
  refine (ten_any w (-k) (by omega) (by omega)).mono ?_
  rintro x w1 ⟨v1, rfl, hr1, hb1⟩
  have HR1 := Aside0.mk hr1
  have HB1 := Aside0.mk hb1
  clear hr1 hb1
  go_wp2_with fail
  refine (times_any w1 _ _ M (10 ^ (-k).toNat) (h.below HB1.out) HR1.out (by have := HMW.out; omega) (by have := HT2.out; have := HKB.out; omega)).mono ?_
  rintro x w2 ⟨v2, rfl, hr2, hb2⟩
  have HR2 := Aside0.mk hr2
  have HB2 := Aside0.mk (HB1.out.trans (hb2.mono HB1.out.size))
  have HW2 := Aside0.mk (show (words (M * 10 ^ (-k).toNat)).length ≤ 100 by have := words_len_mul M (10 ^ (-k).toNat); have := HMW.out; have := HT2.out; have := HKB.out; omega)
  clear hr2 hb2
  go_wp2_with fail
  refine (shifted_l w2 _ (M * 10 ^ (-k).toNat) p HR2.out (by have := HW2.out; omega) (by omega)).mono ?_
  rintro x w3 ⟨v3, rfl, hr3, hb3⟩
  have HR3 := Aside0.mk hr3
  have HB3 := Aside0.mk (HB2.out.trans (hb3.mono HB2.out.size))
  clear hr3 hb3
  go_wp2_with fail
  refine (ten_any w3 k (by omega) (by omega)).mono ?_
  rintro x w4 ⟨v4, rfl, hr4, hb4⟩
  have HR4 := Aside0.mk hr4
  have HR34 := Aside0.mk (HR3.out.below hb4)
  have HB4 := Aside0.mk (HB3.out.trans (hb4.mono HB3.out.size))
  clear hr4 hb4
  go_wp2_with fail
  refine (shifted_l w4 _ (10 ^ k.toNat) q HR4.out (by have := HT1.out; have := HKB.out; omega) (by omega)).mono ?_
  rintro x w5 ⟨v5, rfl, hr5, hb5⟩
  have HR5 := Aside0.mk hr5
  have HR35 := Aside0.mk (HR34.out.below hb5)
  have HB5 := Aside0.mk (HB4.out.trans (hb5.mono HB4.out.size))
  clear hr5 hb5
  go_wp2_with fail
  refine (compare_any w5 _ _ _ _ (dg_words _) (dg_words _) HR35.out HR5.out).mono ?_
  rw [val_words, val_words]
  have hge := cmpN_ge (M * 10 ^ (-k).toNat * 2 ^ p) (10 ^ k.toNat * 2 ^ q)
  generalize cmpN (M * 10 ^ (-k).toNat * 2 ^ p) (10 ^ k.toNat * 2 ^ q) = cc at *
  rintro x w6 ⟨rfl, hb6⟩
  have HB6 := Aside0.mk (HB5.out.trans (hb6.mono HB5.out.size))
  have HGE := Aside0.mk hge
  clear hb6 hge
  go_wp2_with fail
  go_ret
  exact ⟨ret_bool HGE.out, HB6.out⟩

set_option maxRecDepth 100000 in
set_option maxHeartbeats 800000 in
theorem ge_any (w : World) (v1 v2 : Value) (A B : Nat) (k : Int) (h1 : Rd w v1 (words A)) (h2 : Rd w v2 (words B)) (hA : (words A).length ≤ 500) (hB : (words B).length ≤ 500) (hk0 : -500 ≤ k) (hk1 : k ≤ 500) :
    Calls Tryz.prog 53 #[v1, v2, .int .i64 k] w fun x w' => x = .returned (.bool (decide (B * 10 ^ k.toNat ≤ A * 10 ^ (-k).toNat))) ∧ Below w.heap.size w w' := by
  have HAB := Aside0.mk (And.intro hA hB)
  have HT1 := Aside0.mk (words_ten k.toNat)
  have HT2 := Aside0.mk (words_ten (-k).toNat)
  have HKB := Aside0.mk (show k.toNat ≤ 500 ∧ (-k).toNat ≤ 500 by omega)
  go_enter Tryz.func53, Tryz.ntmps53
  by_cases hk : 0 ≤ k
  · obtain ⟨n, rfl⟩ := Int.eq_ofNat_of_zero_le hk
    rw [show (-(n : Int)).toNat = 0 by omega, Int.toNat_natCast] at *
    go_wp2_with fail
    refine (power_any w n (by omega)).mono ?_
    rintro x w1 ⟨v3, rfl, hr1, hb1⟩
    have HR1 := Aside0.mk hr1
    have HB1 := Aside0.mk hb1
    clear hr1 hb1
    go_wp2_with fail
    refine (rmul_any w1 _ _ B (10 ^ n) (h2.below HB1.out) HR1.out (by omega) (by have := HT1.out; have := HKB.out; omega)).mono ?_
    rintro x w2 ⟨v4, rfl, hr2, hb2⟩
    have HR2 := Aside0.mk hr2
    have HB2 := Aside0.mk (HB1.out.trans (hb2.mono HB1.out.size))
    clear hr2 hb2
    go_wp2_with fail
    refine (rcompare_any w2 _ _ A (B * 10 ^ n) (h1.below HB2.out) HR2.out).mono ?_
    have hge := cmpN_ge A (B * 10 ^ n)
    generalize cmpN A (B * 10 ^ n) = cc at *
    rintro x w6 ⟨rfl, hb6⟩
    have HB6 := Aside0.mk (HB2.out.trans (hb6.mono HB2.out.size))
    have HGE := Aside0.mk hge
    clear hb6 hge
    go_wp2_with fail
    go_ret
    exact ⟨ret_bool (by rw [Nat.pow_zero, Nat.mul_one]; exact HGE.out), HB6.out⟩
  · obtain ⟨n, hn⟩ : ∃ n : Nat, -k = (n : Int) := ⟨(-k).toNat, by omega⟩
    have ek : (-k).toNat = n := by omega
    rw [show k.toNat = 0 by omega, ek]
    rw [ek] at HT2 HKB
    have hneg : IntKind.i64.wrap (-k) = (n : Int) := by rw [IntKind.wrap_i64]; omega
    clear hn ek
    go_wp2_with fail
    refine (power_any w n (by have := HKB.out; omega)).mono ?_
    rintro x w1 ⟨v3, rfl, hr1, hb1⟩
    have HR1 := Aside0.mk hr1
    have HB1 := Aside0.mk hb1
    clear hr1 hb1
    go_wp2_with fail
    refine (rmul_any w1 _ _ A (10 ^ n) (h1.below HB1.out) HR1.out (by omega) (by have := HT2.out; have := HKB.out; omega)).mono ?_
    rintro x w2 ⟨v4, rfl, hr2, hb2⟩
    have HR2 := Aside0.mk hr2
    have HB2 := Aside0.mk (HB1.out.trans (hb2.mono HB1.out.size))
    clear hr2 hb2
    go_wp2_with fail
    refine (rcompare_any w2 _ _ (A * 10 ^ n) B HR2.out (h2.below HB2.out)).mono ?_
    have hge := cmpN_ge (A * 10 ^ n) B
    generalize cmpN (A * 10 ^ n) B = cc at *
    rintro x w6 ⟨rfl, hb6⟩
    have HB6 := Aside0.mk (HB2.out.trans (hb6.mono HB2.out.size))
    have HGE := Aside0.mk hge
    clear hb6 hge
    go_wp2_with fail
    go_ret
    exact ⟨ret_bool (by rw [Nat.pow_zero, Nat.mul_one]; exact HGE.out), HB6.out⟩

end Go.Proofs.YthknbknmlnnhcaaGreatDoor
