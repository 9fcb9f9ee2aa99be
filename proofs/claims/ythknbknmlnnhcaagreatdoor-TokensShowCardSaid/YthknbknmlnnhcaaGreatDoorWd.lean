/- Walks: nat.Mul, nat.short, nat.moved. -/
import Derived.Test.YthknbknmlnnhcaaGreatDoorWc
namespace Go.Proofs.YthknbknmlnnhcaaGreatDoor
open Go.RowKit Go.Proofs.YthknbknmlnnhcaaGreatDoorW.PrintWords Bob
set_option linter.unusedVariables false
set_option linter.unusedSimpArgs false

theorem trim_num (w : World) (v : Value) (N : Nat) (h : Rd w v (words N)) : Calls Tryz.prog 101 #[v] w (RetNum N w) := by
  have := trim_any w v (words N) (dg_words N) h
  rwa [val_words] at this
theorem large_num (w : World) (v : Value) (N : Nat) (h : Rd w v (words N)) (hs : (words N).length ≤ 2000) : Calls Tryz.prog 133 #[v] w fun e w' => e = .returned (.bool false) ∧ Below w.heap.size w w' :=
  (large_any w v (words N) (dg_words N) h).mono fun e w' ⟨h1, h2⟩ => ⟨by rw [h1, val_words]; exact ret_bool (decide_eq_false (by omega)), h2⟩

set_option maxHeartbeats 800000 in
theorem mul_any (w : World) (v1 v2 : Value) (N1 N2 : Nat) (h1 : Rd w v1 (words N1)) (h2 : Rd w v2 (words N2)) (hk1 : (words N1).length ≤ 1000) (hk2 : (words N2).length ≤ 1000) :
    Calls Tryz.prog 132 #[v1, v2] w fun e w' => ∃ v', e = .returned (.tuple #[v', .int .i64 0]) ∧ Rd w' v' (words (N1 * N2)) ∧ Below w.heap.size w w' := by
  have HK := Aside0.mk (And.intro hk1 hk2)
  have HR := Aside0.mk (And.intro h1 h2)
  clear hk1 hk2 h1 h2
  go_enter Tryz.func132, Tryz.ntmps132
  go_wp2_with fail
  refine (large_num _ _ N1 HR.out.1 (by have := HK.out; omega)).mono ?_
  rintro e w1 ⟨rfl, hb1⟩
  have HB1 := Aside0.mk hb1
  clear hb1
  go_wp2_with fail
  refine (large_num _ _ N2 (HR.out.2.below HB1.out) (by have := HK.out; omega)).mono ?_
  rintro e w2 ⟨rfl, hb2⟩
  have HB2 := Aside0.mk hb2
  clear hb2
  go_wp2_with fail
  refine (trim_num _ _ N1 ((HR.out.1.below HB1.out).below HB2.out)).mono ?_
  intro e w3 hr1
  obtain ⟨n1, A1, c1, rfl, HL1, hc1, hm1, HC1, HB3⟩ := hr1.elim
  clear hr1
  go_wp2_with fail
  refine (trim_num _ _ N2 (((HR.out.2.below HB1.out).below HB2.out).below HB3.out)).mono ?_
  intro e w4 hr2
  obtain ⟨n2, A2, c2, rfl, HL2, hc2, hm2, HC2, HB4⟩ := hr2.elim
  clear hr2
  have HB := Aside0.mk (((HB1.out.trans (HB2.out.mono HB1.out.size)).trans (HB3.out.mono (Nat.le_trans HB1.out.size HB2.out.size))).trans (HB4.out.mono (Nat.le_trans HB1.out.size (Nat.le_trans HB2.out.size HB3.out.size))))
  have HC := Aside0.mk (Kd.C_below HC1.out HB4.out)
  have hb1 : n1 ≤ 1000 := HL1.out ▸ HK.out.1
  have hb2 : n2 ≤ 1000 := HL2.out ▸ HK.out.2
  clear HC1 HB1 HB2 HB3 HB4 hm1 hm2 HR
  go_wp2_with (refine mk_u32 (.tmp 26) (.tmp 26) rfl rfl rfl _ rfl rfl ?m1 ?m2 ?_)
  case m1 => omega
  case m2 => omega
  intro v5 w5 ho hb3
  have hlen : ((n1 : Int) + n2).toNat = n1 + n2 := by omega
  first | rw [hlen] at ho | skip
  obtain ⟨A5, c5, rfl⟩ := Kd.R_slice ho
  rw [List.length_replicate] at ho ⊢
  have HB5 := Aside0.mk hb3
  have HO := Aside0.mk ho
  clear ho hb3 hlen
  go_wp2_with fail
  go_loopg [30] n1 (fun k v30 w' => ∃ (i : Nat) (O : List Int), v30 = .int .i64 (i : Int) ∧ k + i = n1 ∧ Aside0 (O.length = n1 + n2) ∧ Aside0 (Dg O) ∧ Aside0 (val O = val ((words N1).take i) * N2) ∧ Aside0 (∀ k, i + n2 ≤ k → O.getD k 0 = 0) ∧ Aside0 (Ow w' w4.heap.size (.slice A5 (n1 + n2) c5) O) ∧ Aside0 (Below w4.heap.size w4 w'))
  case atStart => exact ⟨0, _, rfl, rfl, ⟨List.length_replicate⟩, ⟨dg_replicate _⟩, ⟨by simp [val_replicate, val]⟩, ⟨fun k _ => by rw [List.getD_eq_getElem?_getD, List.getElem?_replicate]; split <;> rfl⟩, HO, HB5⟩
  case round =>
    clear HO HB5
    obtain ⟨i, O, rfl, hki, HL, HD, HV, HZ, HO, HB5⟩ := hrel
    have HQ := Aside0.mk hki
    by_cases hlt : i < n1
    · obtain ⟨ad1, X, rfl, HX, hx⟩ := C_at (Kd.C_below HC.out HB5.out) i hlt
      obtain ⟨g, cap, he, hg1, hg2⟩ := HO.out.form (by rw [HL.out]; omega)
      injection he with e1 e2 e3
      subst e1 e3
      have HG := Aside0.mk hg1
      have DX := Aside0.mk (HX.out ▸ dg_getD (dg_words N1) i : 0 ≤ X ∧ X < 4294967296)
      clear hg1 hg2 e2
      go_wp2_with fail
      obtain ⟨wo, rfl⟩ : ∃ wo : World, wo = wr := ⟨_, rfl⟩
      obtain ⟨g0, rfl⟩ : ∃ g0 : Nat, g0 = gk := ⟨_, rfl⟩
      go_loopg [9, 37] n2 (fun k v9 v37 w' => ∃ (j : Nat) (c : Int) (O1 : List Int), v37 = .int .i64 (j : Int) ∧ v9 = .int .u64 c ∧ k + j = n2 ∧ Aside0 (O1.length = n1 + n2) ∧ Aside0 (Dg O1) ∧ Aside0 (0 ≤ c ∧ c < 4294967296) ∧ Aside0 (val O1 + 4294967296 ^ (i + j) * c.toNat = val O + 4294967296 ^ i * (X.toNat * val ((words N2).take j))) ∧ Aside0 (∀ k, i + n2 ≤ k → O1.getD k 0 = 0) ∧ Aside0 (Ow w' w4.heap.size (.slice (some ⟨g, 0, none⟩) (n1 + n2) c5) O1) ∧ Aside0 (Below w4.heap.size w4 w'))
      case atStart => exact ⟨0, 0, O, rfl, rfl, rfl, HL, HD, ⟨by decide⟩, ⟨by simp [val]⟩, HZ, HO, HB5⟩
      case round =>
        clear HO HB5 HL HD HZ hx
        obtain ⟨j, c, O1, rfl, rfl, hkj, HL, HD, HCY, HV1, HZ, HO, HB5⟩ := hrel
        have HQ2 := Aside0.mk hkj
        by_cases hlt2 : j < n2
        · obtain ⟨ad2, Y, rfl, HY, hy⟩ := C_at (Kd.C_below HC2.out HB5.out) j hlt2
          obtain ⟨Z, HZZ, ho1, ho2⟩ := HO.out.cell (i + j) (by omega)
          have hs := mul_step (words N2) O1 (val O) X.toNat i j c Y Z (dg_words _) HD.out (by have := HL.out; omega) (by have := DX.out; omega) HCY.out HY.out HZZ.out HV1.out
          rw [Int.toNat_of_nonneg DX.out.1] at hs
          have DY := Aside0.mk (HY.out ▸ dg_getD (dg_words N2) j : 0 ≤ Y ∧ Y < 4294967296)
          have DZ := Aside0.mk (HZZ.out ▸ dg_getD HD.out (i + j) : 0 ≤ Z ∧ Z < 4294967296)
          obtain ⟨T, hT⟩ : ∃ T, T = c + X * Y + Z := ⟨_, rfl⟩
          obtain ⟨P, hP⟩ : ∃ P, P = X * Y := ⟨_, rfl⟩
          obtain ⟨P2, hP2⟩ : ∃ P2, P2 = X * Y + Z := ⟨_, rfl⟩
          rw [← hT] at hs
          have HS := Aside0.mk hs
          have hw1 : IntKind.u64.wrap X = X := by have := DX.out; rw [IntKind.wrap_u64]; omega
          have hw2 : IntKind.u64.wrap Y = Y := by have := DY.out; rw [IntKind.wrap_u64]; omega
          have hw3 : IntKind.u64.wrap Z = Z := by have := DZ.out; rw [IntKind.wrap_u64]; omega
          have hw4 : IntKind.u64.wrap (X * Y) = P := by have := DZ.out; rw [IntKind.wrap_u64, hP]; omega
          have hw5 : IntKind.u64.wrap (P + Z) = P2 := by have := DZ.out; rw [IntKind.wrap_u64, hP2, hP]; omega
          have hw6 : IntKind.u64.wrap (c + P2) = T := by have := DZ.out; rw [IntKind.wrap_u64, hT, hP2]; omega
          clear hs hT hP hP2 hkj
          go_wp2_with fail
          go_roundg (gk - 1)
          case measure => have := HQ2.out; omega
          case rel => exact ⟨j + 1, _, O1.set (i + j) (T % 4294967296), by go_num, rfl, by have := HQ2.out; omega, ⟨by rw [List.length_set]; exact HL.out⟩, ⟨dg_set HD.out _ _ (by omega)⟩, ⟨⟨HS.out.2.1, HS.out.2.2.1⟩⟩, ⟨HS.out.1⟩, ⟨fun k hk => by rw [getD_set _ _ _ _ (by have := HL.out; omega), if_neg (by omega)]; exact HZ.out k hk⟩, ⟨HO.out.put (i + j) _⟩, ⟨HB5.out.setCell HG.out _⟩⟩
        · obtain rfl : j = n2 := by omega
          clear hlt2 hkj
          obtain ⟨Z, _, ho1, ho2⟩ := HO.out.cell (i + j) (by omega)
          have HR := Aside0.mk (mul_row (words N1) (words N2) O O1 i j c X HX.out HL2.out.symm (by rw [HV.out, val_words]) (HZ.out _ (Nat.le_refl _)) (by have := HL.out; omega) HV1.out)
          have hcm : c % 4294967296 = c := by have := HCY.out; omega
          go_wp2_with fail
          go_roundg (g0 - 1)
          case measure => have := HQ.out; omega
          case rel => exact ⟨i + 1, O1.set (i + j) c, by go_num, by have := HQ.out; omega, ⟨by rw [List.length_set]; exact HL.out⟩, ⟨dg_set HD.out _ _ HCY.out⟩, ⟨by rw [HR.out, val_words]⟩, ⟨fun k hk => by rw [getD_set _ _ _ _ (by have := HL.out; omega), if_neg (by omega)]; exact HZ.out k (by omega)⟩, ⟨HO.out.put (i + j) _⟩, ⟨HB5.out.setCell HG.out _⟩⟩
    · obtain rfl : i = n1 := by omega
      clear hlt hki
      have HV2 := Aside0.mk (show val O = N1 * N2 by rw [HV.out, List.take_of_length_le (by rw [← HL1.out]; exact Nat.le_refl _), val_words])
      have hl3 : (words (N1 * N2)).length ≤ 2000 := by
        rw [← HV2.out]
        exact Nat.le_trans (words_len_le (val_lt HD.out)) (by rw [HL.out]; omega)
      go_wp2_with (go_at_call 131; refine (fits_any _ _ O HD.out HO.out.reads (by rw [HV2.out]; exact hl3)).mono ?_; rintro e w9 ⟨v9, rfl, hr9, hb9⟩)
      rw [HV2.out] at hr9
      exact bodyPost_ret (v := .tuple #[v9, .int .i64 0]) (by simp [results, Tryz.results132, go_sem]) rfl ⟨v9, rfl, hr9, (HB.out.trans (HB5.out.mono HB.out.size)).trans (hb9.mono (Nat.le_trans HB.out.size HB5.out.size))⟩
end Go.Proofs.YthknbknmlnnhcaaGreatDoor
