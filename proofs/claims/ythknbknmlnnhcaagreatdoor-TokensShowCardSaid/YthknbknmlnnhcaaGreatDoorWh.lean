/- Walk: nat.Divide. -/
import Derived.Test.YthknbknmlnnhcaaGreatDoorWg
namespace Go.Proofs.YthknbknmlnnhcaaGreatDoor
open Go.RowKit Go.Proofs.YthknbknmlnnhcaaGreatDoorW.PrintWords Bob
set_option linter.unusedVariables false
set_option linter.unusedSimpArgs false

/-- Quotient and rest. -/
def RetDiv (Q R : Nat) (w : World) (e : Ending) (w' : World) : Prop := ∃ v1 v2, e = .returned (.tuple #[v1, v2, .int .i64 0]) ∧ Rd w' v1 (words Q) ∧ Rd w' v2 (words R) ∧ Below w.heap.size w w'
theorem rd_nil (w : World) : Rd w (.slice none 0 0) [] := ⟨none, 0, rfl, Nat.le_refl _, Kd.C_nil _ _⟩

set_option maxRecDepth 100000 in
set_option maxHeartbeats 400000 in
theorem divide_less (w : World) (v1 v2 : Value) (N1 N2 : Nat) (h1 : Rd w v1 (words N1)) (h2 : Rd w v2 (words N2)) (hk1 : (words N1).length ≤ 2000) (hk2 : (words N2).length ≤ 2000) (hne : N2 ≠ 0) (hlt : N1 < N2) :
    Calls Tryz.prog 86 #[v1, v2] w (RetDiv 0 N1 w) := by
  have HK := Aside0.mk (And.intro hk1 hk2)
  have HR := Aside0.mk (And.intro h1 h2)
  clear hk1 hk2 h1 h2
  go_enter Tryz.func86, Tryz.ntmps86
  go_wp2_with fail
  refine (large_num _ _ N1 HR.out.1 (by have := HK.out; omega)).mono ?_
  rintro e w1 ⟨rfl, hb1⟩
  have HB1 := Aside0.mk hb1
  clear hb1
  go_wp2_with fail
  refine (large_num _ _ N2 (HR.out.2.below HB1.out) (by have := HK.out; omega)).mono ?_
  rintro e w2 ⟨rfl, hb2⟩
  have HB2 := Aside0.mk hb2
  clear hb2
  go_wp2_with fail
  refine (trim_num _ _ N1 ((HR.out.1.below HB1.out).below HB2.out)).mono ?_
  intro e w3 hr1
  obtain ⟨n1, A1, c1, rfl, HL1, hc1, hm1, HC1, HB3⟩ := hr1.elim
  clear hr1
  go_wp2_with fail
  refine (trim_num _ _ N2 (((HR.out.2.below HB1.out).below HB2.out).below HB3.out)).mono ?_
  intro e w4 hr2
  obtain ⟨n2, A2, c2, rfl, HL2, hc2, hm2, HC2, HB4⟩ := hr2.elim
  clear hr2
  have HB := Aside0.mk (((HB1.out.trans (HB2.out.mono HB1.out.size)).trans (HB3.out.mono (Nat.le_trans HB1.out.size HB2.out.size))).trans (HB4.out.mono (Nat.le_trans HB1.out.size (Nat.le_trans HB2.out.size HB3.out.size))))
  have HC := Aside0.mk (Kd.C_below HC1.out HB4.out)
  have hb1 : n1 ≤ 2000 := HL1.out ▸ HK.out.1
  have hb2 : n2 ≤ 2000 := HL2.out ▸ HK.out.2
  have hn2 : 0 < n2 := by rw [HL2.out]; exact words_len_pos hne
  clear HC1 HB1 HB2 HB3 HB4 hm1 hm2 HR
  go_wp2_with fail
  refine (compare_any _ _ _ (words N1) (words N2) (dg_words _) (dg_words _) (C_rd HC.out hc1) (C_rd HC2.out hc2)).mono ?_
  rw [val_words, val_words]
  rintro e w5 ⟨rfl, hb5⟩
  have HB5 := Aside0.mk (HB.out.trans (hb5.mono HB.out.size))
  have HC5 := Aside0.mk (Kd.C_below HC.out hb5)
  have HC6 := Aside0.mk (Kd.C_below HC2.out hb5)
  clear hb5 HB HC HC2
  rw [show cmpN N1 N2 = -1 from by rw [cmpN, if_pos hlt]]
  go_wp2_with (go_at_call 134; refine (clone_any _ _ N1 (C_rd HC5.out hc1) (by have := HK.out; omega)).mono ?_; rintro e w6 ⟨v6, rfl, hr6, hb6⟩)
  exact bodyPost_ret (v := .tuple #[.slice none 0 0, v6, .int .i64 0]) (by simp [results, Tryz.results86, go_sem]) rfl ⟨_, v6, rfl, by rw [words_zero]; exact rd_nil _, hr6, HB5.out.trans (hb6.mono HB5.out.size)⟩

set_option maxRecDepth 100000 in
set_option maxHeartbeats 800000 in
theorem divide_one (w : World) (v1 v2 : Value) (N1 N2 : Nat) (h1 : Rd w v1 (words N1)) (h2 : Rd w v2 (words N2)) (hk1 : (words N1).length ≤ 2000) (hk2 : (words N2).length ≤ 2000) (hne : N2 ≠ 0) (hge : N2 ≤ N1) (hone : (words N2).length = 1) :
    Calls Tryz.prog 86 #[v1, v2] w (RetDiv (N1 / N2) (N1 % N2) w) := by
  have HK := Aside0.mk (And.intro hk1 hk2)
  have HR := Aside0.mk (And.intro h1 h2)
  clear hk1 hk2 h1 h2
  go_enter Tryz.func86, Tryz.ntmps86
  go_wp2_with fail
  refine (large_num _ _ N1 HR.out.1 (by have := HK.out; omega)).mono ?_
  rintro e w1 ⟨rfl, hb1⟩
  have HB1 := Aside0.mk hb1
  clear hb1
  go_wp2_with fail
  refine (large_num _ _ N2 (HR.out.2.below HB1.out) (by have := HK.out; omega)).mono ?_
  rintro e w2 ⟨rfl, hb2⟩
  have HB2 := Aside0.mk hb2
  clear hb2
  go_wp2_with fail
  refine (trim_num _ _ N1 ((HR.out.1.below HB1.out).below HB2.out)).mono ?_
  intro e w3 hr1
  obtain ⟨n1, A1, c1, rfl, HL1, hc1, hm1, HC1, HB3⟩ := hr1.elim
  clear hr1
  go_wp2_with fail
  refine (trim_num _ _ N2 (((HR.out.2.below HB1.out).below HB2.out).below HB3.out)).mono ?_
  intro e w4 hr2
  obtain ⟨n2, A2, c2, rfl, HL2, hc2, hm2, HC2, HB4⟩ := hr2.elim
  clear hr2
  have HB := Aside0.mk (((HB1.out.trans (HB2.out.mono HB1.out.size)).trans (HB3.out.mono (Nat.le_trans HB1.out.size HB2.out.size))).trans (HB4.out.mono (Nat.le_trans HB1.out.size (Nat.le_trans HB2.out.size HB3.out.size))))
  have HC := Aside0.mk (Kd.C_below HC1.out HB4.out)
  have hb1 : n1 ≤ 2000 := HL1.out ▸ HK.out.1
  have hb2 : n2 ≤ 2000 := HL2.out ▸ HK.out.2
  have hn2 : 0 < n2 := by rw [HL2.out]; exact words_len_pos hne
  clear HC1 HB1 HB2 HB3 HB4 hm1 hm2 HR
  go_wp2_with fail
  refine (compare_any _ _ _ (words N1) (words N2) (dg_words _) (dg_words _) (C_rd HC.out hc1) (C_rd HC2.out hc2)).mono ?_
  rw [val_words, val_words]
  rintro e w5 ⟨rfl, hb5⟩
  have HB5 := Aside0.mk (HB.out.trans (hb5.mono HB.out.size))
  have HC5 := Aside0.mk (Kd.C_below HC.out hb5)
  have HC6 := Aside0.mk (Kd.C_below HC2.out hb5)
  clear hb5 HB HC HC2
  obtain rfl : n2 = 1 := by rw [HL2.out]; exact hone
  have hcm : cmpN N1 N2 = 0 ∨ cmpN N1 N2 = 1 := by unfold cmpN; rw [if_neg (by omega)]; split <;> simp
  have hcm2 : decide (cmpN N1 N2 < 0) = false := decide_eq_false (by omega)
  obtain ⟨ad, X, rfl, HX, hx⟩ := C_at HC6.out 0 (by omega)
  have DX := Aside0.mk (HX.out ▸ dg_getD (dg_words N2) 0 : 0 ≤ X ∧ X < 4294967296)
  have hX : N2 = X.toNat := by
    have h1 := top_bounds hne
    rw [hone, Nat.sub_self, HX.out, Nat.pow_zero] at h1
    omega
  have HXN := Aside0.mk hX
  rw [show ad.add 0 = ad by simp [Addr.add]] at hx
  clear hX hcm
  go_wp2_with (go_at_call 135; refine (short_any _ _ (words N1) X (dg_words _) (C_rd HC5.out hc1) (by have := HK.out; omega) (by have := DX.out; have := HXN.out; omega)).mono ?_; rintro e w6 ⟨v6, Q, r, rfl, hr6, hd6, hl6, hv6, hq6, hb6⟩; have HB6 := Aside0.mk hb6; have HR6 := Aside0.mk (And.intro hr6 (And.intro hd6 (And.intro hv6 hq6))); clear hr6 hd6 hl6 hv6 hq6 hb6)
  have hqv : val Q = N1 / N2 ∧ r.toNat = N1 % N2 := by
    have h1 := HR6.out.2.2.1
    have h2 := HR6.out.2.2.2
    rw [val_words, ← HXN.out] at h1
    have h3 : r.toNat < N2 := by have := HXN.out; omega
    rw [h1, Nat.mul_comm, Nat.mul_add_div (by omega), Nat.mul_add_mod, Nat.div_eq_of_lt h3, Nat.mod_eq_of_lt h3]
    exact ⟨rfl, rfl⟩
  have HQV := Aside0.mk hqv
  have hrd : Dg [r] := dg_cons.2 ⟨by have := HR6.out.2.2.2; have := DX.out; omega, dg_nil⟩
  have HRD := Aside0.mk hrd
  clear hqv hrd
  go_wp2_with fail
  refine (trim_any _ _ Q HR6.out.2.1 HR6.out.1).mono ?_
  rintro e w7 ⟨v7, rfl, hr7, hb7⟩
  have HB7 := Aside0.mk hb7
  have HR7 := Aside0.mk hr7
  clear hb7 hr7
  go_wp2_with fail
  refine (trim_any _ _ [r] HRD.out (Ow.lit w7 w7.heap.size [r] (Nat.le_refl _) (by simp)).reads).mono ?_
  rintro e w8 ⟨v8, rfl, hr8, hb8⟩
  have hbe : Below w7.heap.size w7 w8 := Below.trans (below_alloc (Below.refl _ _) _) (hb8.mono (by simp))
  have HR78 := Aside0.mk (HR7.out.below hbe)
  have HB8 := Aside0.mk hbe
  have HR8 := Aside0.mk hr8
  clear hbe hr8 hb8
  rw [HQV.out.1] at HR78
  rw [show val [r] = N1 % N2 by simp [val, HQV.out.2]] at HR8
  go_wp2_with fail
  exact bodyPost_ret (v := .tuple #[v7, v8, .int .i64 0]) (by simp [results, Tryz.results86, go_sem]) rfl ⟨v7, v8, rfl, HR78.out, HR8.out, ((HB5.out.trans (HB6.out.mono HB5.out.size)).trans (HB7.out.mono (Nat.le_trans HB5.out.size HB6.out.size))).trans (HB8.out.mono (Nat.le_trans (Nat.le_trans HB5.out.size HB6.out.size) HB7.out.size))⟩

end Go.Proofs.YthknbknmlnnhcaaGreatDoor
