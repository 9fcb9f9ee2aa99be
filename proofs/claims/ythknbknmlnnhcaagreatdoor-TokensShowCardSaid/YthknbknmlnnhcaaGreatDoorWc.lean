/- Walks: math/bits' words of 32 digits; nat.Add. -/
import Derived.Test.YthknbknmlnnhcaaGreatDoorWb
import Derived.Test.YthknbknmlnnhcaaGreatDoorM
import Derived.Laws.BitsAllLaws
import Derived.Laws.Bits64
namespace Go.Proofs.YthknbknmlnnhcaaGreatDoor
open Go.RowKit Go.Proofs.YthknbknmlnnhcaaGreatDoorW.PrintWords Bob
set_option linter.unusedVariables false
set_option linter.unusedSimpArgs false

theorem ret_two {k k' : IntKind} {a b a' b' : Int} (h : a = a') (h' : b = b') : Ending.returned (.tuple #[.int k a, .int k' b]) = .returned (.tuple #[.int k a', .int k' b']) := by rw [h, h']

theorem add32_any (x y c : Int) (w : World) (hx : 0 ≤ x ∧ x < 4294967296) (hy : 0 ≤ y ∧ y < 4294967296) (hc : 0 ≤ c ∧ c ≤ 1) :
    Calls Tryz.prog 141 #[.int .u32 x, .int .u32 y, .int .u32 c] w fun e w' => e = .returned (.tuple #[.int .u32 ((x + y + c) % 4294967296), .int .u32 ((x + y + c) / 4294967296)]) ∧ w = w' := by
  have H := Aside0.mk (And.intro hx (And.intro hy hc))
  clear hx hy hc
  go_enter Tryz.func141, Tryz.ntmps141
  go_wp2
  go_ret2
  exact ⟨ret_two (by have := H.out; simp only [IntKind.wrap_u64]; omega) (by have := H.out; simp only [IntKind.wrap_u64]; omega), rfl⟩

theorem u32_not (x : Int) (hx : 0 ≤ x ∧ x < 4294967296) : IntKind.u32.wrap (-x - 1) = 4294967295 - x := by rw [IntKind.wrap_u32]; omega

def borrow (x y c : Int) : Int := if x < y + c then 1 else 0

/-- Bit 31 of the formula by which Sub32 tells its borrow. -/
theorem borrow_bits (x y c : Int) (hx : 0 ≤ x ∧ x < 4294967296) (hy : 0 ≤ y ∧ y < 4294967296) (hc : 0 ≤ c ∧ c ≤ 1) :
    bits .or .u32 (bits .and .u32 (bits .xor .u32 IntKind.u32.max x) y) (bits .and .u32 (bits .xor .u32 IntKind.u32.max (bits .xor .u32 x y)) ((x - y - c) % 4294967296)) / 2147483648 = borrow x y c := by
  obtain ⟨X, hX⟩ : ∃ X : BitVec 32, x = (X.toNat : Int) := ⟨BitVec.ofNat 32 x.toNat, by rw [BitVec.toNat_ofNat]; omega⟩
  obtain ⟨Y, hY⟩ : ∃ Y : BitVec 32, y = (Y.toNat : Int) := ⟨BitVec.ofNat 32 y.toNat, by rw [BitVec.toNat_ofNat]; omega⟩
  have e0 : IntKind.u32.max = ((4294967295 : Nat) : Int) := rfl
  have hs : (x - y - c) % 4294967296 = (((X - Y - BitVec.ofNat 32 c.toNat).toNat : Nat) : Int) := by
    rw [BitVec.toNat_sub, BitVec.toNat_sub, BitVec.toNat_ofNat]; omega
  have l1 := X.isLt
  have l2 := Y.isLt
  rw [hs, hX, hY, e0]
  have m1 := (4294967295#32 ^^^ X).isLt
  have m2 := (X ^^^ Y).isLt
  have m3 := (4294967295#32 ^^^ (X ^^^ Y)).isLt
  have m4 := (X - Y - BitVec.ofNat 32 c.toNat).isLt
  rw [u32_xor_nat _ _ (by omega) (by omega), u32_xor_nat _ _ (by omega) (by omega)]
  rw [show (4294967295 ^^^ X.toNat) = (4294967295#32 ^^^ X).toNat by rw [BitVec.toNat_xor]; rfl, show X.toNat ^^^ Y.toNat = (X ^^^ Y).toNat by rw [BitVec.toNat_xor]]
  rw [u32_xor_nat _ _ (by omega) (by omega), u32_and_nat _ _ (by omega) (by omega)]
  rw [show (4294967295 ^^^ (X ^^^ Y).toNat) = (4294967295#32 ^^^ (X ^^^ Y)).toNat by rw [BitVec.toNat_xor]; rfl]
  rw [u32_and_nat _ _ (by omega) (by omega)]
  rw [← BitVec.toNat_and, ← BitVec.toNat_and]
  rw [u32_or_nat _ _ (by exact ((4294967295#32 ^^^ X) &&& Y).isLt) (by exact ((4294967295#32 ^^^ (X ^^^ Y)) &&& X - Y - BitVec.ofNat 32 c.toNat).isLt)]
  rw [← BitVec.toNat_or]
  generalize hD : X - Y - BitVec.ofNat 32 c.toNat = D at *
  have hDn : (D.toNat : Int) = ((X.toNat : Int) - Y.toNat - c) % 4294967296 := by rw [← hD, BitVec.toNat_sub, BitVec.toNat_sub, BitVec.toNat_ofNat]; omega
  generalize hZ : (4294967295#32 ^^^ X) &&& Y ||| (4294967295#32 ^^^ (X ^^^ Y)) &&& D = Z
  have hz : Z.msb = ((!X.msb && Y.msb) || (!(X.msb ^^ Y.msb) && D.msb)) := by
    rw [← hZ, BitVec.msb_or, BitVec.msb_and, BitVec.msb_and, BitVec.msb_xor, BitVec.msb_xor, BitVec.msb_xor, show (4294967295#32).msb = true from rfl]
    cases X.msb <;> cases Y.msb <;> cases D.msb <;> rfl
  rw [BitVec.msb_eq_decide, BitVec.msb_eq_decide, BitVec.msb_eq_decide, BitVec.msb_eq_decide] at hz
  have l5 := Z.isLt
  have l6 := D.isLt
  simp only [Nat.reduceSub, Nat.reducePow] at hz l1 l2 l5 l6
  have h1 : (Z.toNat : Int) / 2147483648 = if 2147483648 ≤ Z.toNat then 1 else 0 := by split <;> omega
  rw [h1, borrow]
  by_cases a1 : 2147483648 ≤ X.toNat <;> by_cases a2 : 2147483648 ≤ Y.toNat <;> by_cases a3 : 2147483648 ≤ D.toNat <;> by_cases a4 : 2147483648 ≤ Z.toNat <;> simp [a1, a2, a3, a4] at hz ⊢ <;> omega

theorem sub32_any (x y c : Int) (w : World) (hx : 0 ≤ x ∧ x < 4294967296) (hy : 0 ≤ y ∧ y < 4294967296) (hc : 0 ≤ c ∧ c ≤ 1) :
    Calls Tryz.prog 173 #[.int .u32 x, .int .u32 y, .int .u32 c] w fun e w' => e = .returned (.tuple #[.int .u32 ((x - y - c) % 4294967296), .int .u32 (borrow x y c)]) ∧ w = w' := by
  have H := Aside0.mk (And.intro hx (And.intro hy hc))
  have hsg : IntKind.u32.signed = false := rfl
  clear hx hy hc
  go_enter Tryz.func173, Tryz.ntmps173
  go_wp2
  go_ret2
  exact ⟨ret_two (by have := H.out; omega) (borrow_bits x y c H.out.1 H.out.2.1 H.out.2.2), rfl⟩

theorem div32_quiet (h l d : Int) (w : World) (hh : 0 ≤ h) (hl : 0 ≤ l ∧ l < 4294967296) (hd : h < d ∧ d < 4294967296) :
    Calls Tryz.prog 148 #[.int .u32 h, .int .u32 l, .int .u32 d] w fun e w' => e = .returned (.tuple #[.int .u32 ((h * 4294967296 + l) / d), .int .u32 ((h * 4294967296 + l) % d)]) ∧ ∃ nq, w' = w.drewN nq := by
  have H := Aside0.mk (And.intro hh (And.intro hl hd))
  have h1 : (d != 0) = true := by rw [bne_iff_ne]; omega
  have h2 : decide (d ≤ h) = false := decide_eq_false (by omega)
  have h3 : IntKind.u64.wrap h = h := by rw [IntKind.wrap_u64]; omega
  have h4 : IntKind.u64.wrap l = l := by rw [IntKind.wrap_u64]; omega
  have h5 : IntKind.u64.wrap d = d := by rw [IntKind.wrap_u64]; omega
  have h6 : IntKind.u64.wrap (h * 4294967296) = h * 4294967296 := by rw [IntKind.wrap_u64]; omega
  obtain ⟨M, hM⟩ : ∃ M, M = h * 4294967296 + l := ⟨_, rfl⟩
  have h7 : bits .or .u64 (h * 4294967296) l = M := by
    rw [u64_or _ _ (by omega) (by omega) (by omega) (by omega), hM]
    have e : (h * 4294967296).toNat = 2 ^ 32 * h.toNat := by omega
    rw [e, ← Nat.two_pow_add_eq_or_of_lt (by omega)]
    omega
  have hM0 : 0 ≤ M := by omega
  have hd0 : 1 ≤ d := by omega
  have HM := Aside0.mk hM
  have hq : M / d < 4294967296 ∧ 0 ≤ M / d := by
    constructor
    · exact Int.ediv_lt_of_lt_mul (by omega) (by have : (h + 1) * 4294967296 ≤ d * 4294967296 := Int.mul_le_mul_of_nonneg_right (by omega) (by omega); omega)
    · exact Int.ediv_nonneg (by omega) (by omega)
  have hr : 0 ≤ M % d ∧ M % d < d := ⟨Int.emod_nonneg _ (by omega), Int.emod_lt_of_pos _ (by omega)⟩
  have HQ := Aside0.mk (And.intro hq hr)
  rw [← hM]
  clear hh hl hd hM hq hr
  go_enter Tryz.func148, Tryz.ntmps148
  go_wp2
  go_quiet (fail)
  go_wp2
  go_ret2
  have H2 := H.out
  have H3 := HQ.out
  have e1 : M.tdiv d = M / d := Int.tdiv_eq_ediv_of_nonneg (by have := HM.out; omega)
  have e2 : M.tmod d = M % d := Int.tmod_eq_emod_of_nonneg (by have := HM.out; omega)
  exact ⟨ret_two (by rw [e1]; simp only [IntKind.wrap_u64]; omega) (by first | (rw [e2]; omega) | omega), _, rfl⟩
theorem div32_any (h l d : Int) (w : World) (hh : 0 ≤ h) (hl : 0 ≤ l ∧ l < 4294967296) (hd : h < d ∧ d < 4294967296) :
    Calls Tryz.prog 148 #[.int .u32 h, .int .u32 l, .int .u32 d] w fun e w' => e = .returned (.tuple #[.int .u32 ((h * 4294967296 + l) / d), .int .u32 ((h * 4294967296 + l) % d)]) ∧ Below w.heap.size w w' :=
  (div32_quiet h l d w hh hl hd).mono fun e w' ⟨h1, n, h2⟩ => ⟨h1, by rw [h2]; exact pw_below_drewN (Below.refl _ _) n⟩

set_option maxHeartbeats 400000 in
theorem add_any (w : World) (v1 v2 : Value) (l1 l2 : List Int) (hd1 : Dg l1) (hd2 : Dg l2) (h1 : Rd w v1 l1) (h2 : Rd w v2 l2) (hk1 : l1.length ≤ 100000) (hk2 : l2.length ≤ 100000) :
    Calls Tryz.prog 88 #[v1, v2] w (RetNum (val l1 + val l2) w) := by
  have hk1' := Nat.le_trans (words_len_le (val_lt hd1)) hk1
  have hk2' := Nat.le_trans (words_len_le (val_lt hd2)) hk2
  go_enter Tryz.func88, Tryz.ntmps88
  go_wp2_with fail
  refine (trim_any _ _ _ hd1 h1).mono ?_
  intro e w1 hr1
  obtain ⟨n1, A1, c1, rfl, HL1, hc1, hm1, HC1, HB1⟩ := hr1.elim
  have h2' := Rd.below h2 HB1.out
  clear hr1 h1 h2
  go_wp2_with fail
  refine (trim_any _ _ _ hd2 h2').mono ?_
  intro e w2 hr2
  obtain ⟨n2, A2, c2, rfl, HL2, hc2, hm2, HC2, HB2⟩ := hr2.elim
  clear hr2 h2'
  have HB := Aside0.mk (HB1.out.trans (HB2.out.mono HB1.out.size))
  have HC := Aside0.mk (Kd.C_below HC1.out HB2.out)
  have HK := Aside0.mk (And.intro (HL1.out ▸ hk1' : n1 ≤ 100000) (HL2.out ▸ hk2' : n2 ≤ 100000))
  have hb1 : n1 ≤ 100000 := HK.out.1
  have hb2 : n2 ≤ 100000 := HK.out.2
  clear HC1 HB1 HB2 hk1 hk2 hk1' hk2' hm1 hm2
  rcases Nat.lt_or_ge n1 n2 with hlt | hge
  · go_wp2_with (refine mk_u32 (.tmp 23) (.tmp 23) rfl rfl rfl _ rfl rfl ?m1_2 ?m2_2 ?_)
    case m1_2 => omega
    case m2_2 => have := HK.out; omega
    intro v3 w3 ho hb3
    obtain ⟨g, cap, rfl, hg1, hg2⟩ := ho.form (by simp)
    rw [List.length_replicate] at ho ⊢
    have HB3 := Aside0.mk hb3
    have HO := Aside0.mk ho
    have HG := Aside0.mk hg1
    clear hb3 ho hg1 hg2
    go_wp2_with fail
    go_loopg [6, 27] n2 (fun k v6 v27 w' => ∃ (i : Nat) (cy : Int) (O : List Int), v27 = .int .i64 (i : Int) ∧ v6 = .int .u32 cy ∧ k + i = n2 ∧ Aside0 (O.length = n2 + 1) ∧ Aside0 (Dg O) ∧ Aside0 (0 ≤ cy ∧ cy ≤ 1) ∧ Aside0 (val (O.take i) + 4294967296 ^ i * cy.toNat = val ((words (val l2)).take i) + val ((words (val l1)).take i)) ∧ Aside0 (Ow w' w2.heap.size (.slice (some ⟨g, 0, none⟩) (n2 + 1) cap) O) ∧ Aside0 (Below w2.heap.size w2 w'))
    case atStart => exact ⟨0, 0, _, rfl, rfl, rfl, ⟨List.length_replicate⟩, ⟨dg_replicate _⟩, ⟨by decide⟩, ⟨by simp [val]⟩, HO, HB3⟩
    case round =>
      clear HO HB3
      obtain ⟨i, cy, O, rfl, rfl, hki, HL, HD, HCY, HV, HO, HB3⟩ := hrel
      have HQ := Aside0.mk hki
      by_cases hlt : i < n2
      · obtain ⟨ad1, X, rfl, HX, hx⟩ := C_at (Kd.C_below HC2.out HB3.out) i hlt
        obtain ⟨Z, _, ho1, ho2⟩ := HO.out.cell i (by omega)
        have HS := Aside0.mk (add_step (words (val l2)) (words (val l1)) O i cy (dg_words _) (dg_words _) (by have := HL.out; omega) HCY.out HV.out)
        have d1 := dg_getD (dg_words (val l2)) i
        have d2 := dg_getD (dg_words (val l1)) i
        rw [HX.out] at HS d1
        have D1 := Aside0.mk d1
        have D2 := Aside0.mk d2
        clear d1 d2
        by_cases hlt2 : i < n1
        · obtain ⟨ad2, Y, rfl, HY, hy⟩ := C_at (Kd.C_below HC.out HB3.out) i hlt2
          rw [HY.out] at HS D2
          go_wp2_with (go_at_call 141; refine (add32_any _ _ _ _ D1.out D2.out HCY.out).mono ?_; rintro e w9 ⟨rfl, rfl⟩)
          go_roundg (gk - 1)
          case measure => omega
          case rel => exact ⟨i + 1, _, O.set i ((X + Y + cy) % 4294967296), by go_num, rfl, by have := HQ.out; omega, ⟨by rw [List.length_set]; exact HL.out⟩, ⟨dg_set HD.out _ _ (by omega)⟩, ⟨HS.out.2⟩, ⟨HS.out.1⟩, ⟨HO.out.put i _⟩, ⟨HB3.out.setCell HG.out _⟩⟩
        · have HZ := Aside0.mk (getD_ge (l := words (val l1)) (i := i) (by have := HL1.out; omega))
          rw [HZ.out] at HS
          simp only [Int.add_zero] at HS
          go_wp2_with (go_at_call 141; refine (add32_any _ _ _ _ D1.out (by decide) HCY.out).mono ?_; rintro e w9 ⟨rfl, rfl⟩)
          go_roundg (gk - 1)
          case measure => omega
          case rel => exact ⟨i + 1, _, O.set i ((X + cy) % 4294967296), by go_num, rfl, by have := HQ.out; omega, ⟨by rw [List.length_set]; exact HL.out⟩, ⟨dg_set HD.out _ _ (by omega)⟩, ⟨HS.out.2⟩, ⟨HS.out.1⟩, ⟨HO.out.put i _⟩, ⟨HB3.out.setCell HG.out _⟩⟩
      · obtain rfl : i = n2 := by omega
        clear hlt hki
        obtain ⟨Z, _, ho1, ho2⟩ := HO.out.cell i (by omega)
        have hcy := HCY.out
        have hd3 : Dg (O.set i cy) := dg_set HD.out _ _ (by omega)
        have HV2 : val (O.set i cy) = val l1 + val l2 := by
          have e1 := val_set_take O i cy (by have := HL.out; omega)
          rw [List.take_of_length_le (by rw [List.length_set, HL.out]; exact Nat.le_refl _)] at e1
          have e2 := HV.out
          rw [List.take_of_length_le (l := words (val l2)) (by have := HL2.out; omega), List.take_of_length_le (l := words (val l1)) (by have := HL1.out; omega), val_words, val_words] at e2
          omega
        clear hcy
        have HP := Aside0.mk (HO.out.put i cy).reads
        have HB4 := Aside0.mk (HB3.out.setCell HG.out (.int .u32 cy) (p := ⟨g, i, none⟩))
        go_wp2_with (go_at_call 101; refine (trim_any _ _ _ hd3 HP.out).mono ?_; rintro e w9 hr9; obtain ⟨n9, A9, c9, rfl, HL9, hc9, hm9, HC9, HB9⟩ := hr9.elim)
        go_ret
        rw [HV2] at HC9 HL9
        exact RetNum.mk rfl HL9.out.symm hc9 HC9.out ((HB.out.trans (HB4.out.mono HB.out.size)).trans (HB9.out.mono (Nat.le_trans HB.out.size HB4.out.size))) rfl
  · go_wp2_with (refine mk_u32 (.tmp 23) (.tmp 23) rfl rfl rfl _ rfl rfl ?m1_1 ?m2_1 ?_)
    case m1_1 => omega
    case m2_1 => have := HK.out; omega
    intro v3 w3 ho hb3
    obtain ⟨g, cap, rfl, hg1, hg2⟩ := ho.form (by simp)
    rw [List.length_replicate] at ho ⊢
    have HB3 := Aside0.mk hb3
    have HO := Aside0.mk ho
    have HG := Aside0.mk hg1
    clear hb3 ho hg1 hg2
    go_wp2_with fail
    go_loopg [6, 27] n1 (fun k v6 v27 w' => ∃ (i : Nat) (cy : Int) (O : List Int), v27 = .int .i64 (i : Int) ∧ v6 = .int .u32 cy ∧ k + i = n1 ∧ Aside0 (O.length = n1 + 1) ∧ Aside0 (Dg O) ∧ Aside0 (0 ≤ cy ∧ cy ≤ 1) ∧ Aside0 (val (O.take i) + 4294967296 ^ i * cy.toNat = val ((words (val l1)).take i) + val ((words (val l2)).take i)) ∧ Aside0 (Ow w' w2.heap.size (.slice (some ⟨g, 0, none⟩) (n1 + 1) cap) O) ∧ Aside0 (Below w2.heap.size w2 w'))
    case atStart => exact ⟨0, 0, _, rfl, rfl, rfl, ⟨List.length_replicate⟩, ⟨dg_replicate _⟩, ⟨by decide⟩, ⟨by simp [val]⟩, HO, HB3⟩
    case round =>
      clear HO HB3
      obtain ⟨i, cy, O, rfl, rfl, hki, HL, HD, HCY, HV, HO, HB3⟩ := hrel
      have HQ := Aside0.mk hki
      by_cases hlt : i < n1
      · obtain ⟨ad1, X, rfl, HX, hx⟩ := C_at (Kd.C_below HC.out HB3.out) i hlt
        obtain ⟨Z, _, ho1, ho2⟩ := HO.out.cell i (by omega)
        have HS := Aside0.mk (add_step (words (val l1)) (words (val l2)) O i cy (dg_words _) (dg_words _) (by have := HL.out; omega) HCY.out HV.out)
        have d1 := dg_getD (dg_words (val l1)) i
        have d2 := dg_getD (dg_words (val l2)) i
        rw [HX.out] at HS d1
        have D1 := Aside0.mk d1
        have D2 := Aside0.mk d2
        clear d1 d2
        by_cases hlt2 : i < n2
        · obtain ⟨ad2, Y, rfl, HY, hy⟩ := C_at (Kd.C_below HC2.out HB3.out) i hlt2
          rw [HY.out] at HS D2
          go_wp2_with (go_at_call 141; refine (add32_any _ _ _ _ D1.out D2.out HCY.out).mono ?_; rintro e w9 ⟨rfl, rfl⟩)
          go_roundg (gk - 1)
          case measure => omega
          case rel => exact ⟨i + 1, _, O.set i ((X + Y + cy) % 4294967296), by go_num, rfl, by have := HQ.out; omega, ⟨by rw [List.length_set]; exact HL.out⟩, ⟨dg_set HD.out _ _ (by omega)⟩, ⟨HS.out.2⟩, ⟨HS.out.1⟩, ⟨HO.out.put i _⟩, ⟨HB3.out.setCell HG.out _⟩⟩
        · have HZ := Aside0.mk (getD_ge (l := words (val l2)) (i := i) (by have := HL2.out; omega))
          rw [HZ.out] at HS
          simp only [Int.add_zero] at HS
          go_wp2_with (go_at_call 141; refine (add32_any _ _ _ _ D1.out (by decide) HCY.out).mono ?_; rintro e w9 ⟨rfl, rfl⟩)
          go_roundg (gk - 1)
          case measure => omega
          case rel => exact ⟨i + 1, _, O.set i ((X + cy) % 4294967296), by go_num, rfl, by have := HQ.out; omega, ⟨by rw [List.length_set]; exact HL.out⟩, ⟨dg_set HD.out _ _ (by omega)⟩, ⟨HS.out.2⟩, ⟨HS.out.1⟩, ⟨HO.out.put i _⟩, ⟨HB3.out.setCell HG.out _⟩⟩
      · obtain rfl : i = n1 := by omega
        clear hlt hki
        obtain ⟨Z, _, ho1, ho2⟩ := HO.out.cell i (by omega)
        have hcy := HCY.out
        have hd3 : Dg (O.set i cy) := dg_set HD.out _ _ (by omega)
        have HV2 : val (O.set i cy) = val l1 + val l2 := by
          have e1 := val_set_take O i cy (by have := HL.out; omega)
          rw [List.take_of_length_le (by rw [List.length_set, HL.out]; exact Nat.le_refl _)] at e1
          have e2 := HV.out
          rw [List.take_of_length_le (l := words (val l1)) (by have := HL1.out; omega), List.take_of_length_le (l := words (val l2)) (by have := HL2.out; omega), val_words, val_words] at e2
          omega
        clear hcy
        have HP := Aside0.mk (HO.out.put i cy).reads
        have HB4 := Aside0.mk (HB3.out.setCell HG.out (.int .u32 cy) (p := ⟨g, i, none⟩))
        go_wp2_with (go_at_call 101; refine (trim_any _ _ _ hd3 HP.out).mono ?_; rintro e w9 hr9; obtain ⟨n9, A9, c9, rfl, HL9, hc9, hm9, HC9, HB9⟩ := hr9.elim)
        go_ret
        rw [HV2] at HC9 HL9
        exact RetNum.mk rfl HL9.out.symm hc9 HC9.out ((HB.out.trans (HB4.out.mono HB.out.size)).trans (HB9.out.mono (Nat.le_trans HB.out.size HB4.out.size))) rfl

end Go.Proofs.YthknbknmlnnhcaaGreatDoor
