/- Walks: nat.Bits, nat.Shift. -/
import Derived.Test.YthknbknmlnnhcaaGreatDoorWf
import Derived.Test.YthknbknmlnnhcaaGreatDoorM
import Derived.Test.YthknbknmlnnhcaaGreatDoorShelf
namespace Go.Proofs.YthknbknmlnnhcaaGreatDoor
open Go.RowKit Go.Proofs.YthknbknmlnnhcaaGreatDoorW.PrintWords Bob
set_option linter.unusedVariables false
set_option linter.unusedSimpArgs false

theorem bits_any (w : World) (v : Value) (N : Nat) (h : Rd w v (words N)) (hk : (words N).length ≤ 100000) : Calls Tryz.prog 46 #[v] w fun e w' => e = .returned (.int .i64 (bl N : Int)) ∧ Below w.heap.size w w' := by
  have HK := Aside0.mk hk
  go_enter Tryz.func46, Tryz.ntmps46
  go_wp2_with fail
  refine (trim_num _ _ N h).mono ?_
  intro e w1 hr1
  obtain ⟨n, A, c, rfl, HL, hc, hm, HC, HB⟩ := hr1.elim
  clear hr1 h hk
  cases n with
  | zero =>
    go_wp2_with fail
    go_ret
    exact ⟨ret_int (by rw [words_len_zero.1 HL.out.symm]; rfl), HB.out⟩
  | succ m =>
    obtain ⟨ad, X, rfl, HX, hx⟩ := C_at HC.out m (by omega)
    have DX := Aside0.mk (HX.out ▸ dg_getD (dg_words N) m : 0 ≤ X ∧ X < 4294967296)
    have hm2 : m ≤ 100000 := by have := HL.out; have := HK.out; omega
    clear hm
    go_wp2_with (go_at_call 102; refine (Tryz.bits_Len32 _ _ DX.out.1 (by have := DX.out; omega)).mono ?_; rintro e w2 ⟨rfl, rfl⟩)
    go_ret
    refine ⟨ret_int ?_, HB.out⟩
    have hn : N ≠ 0 := fun h => by have := HL.out; rw [words_len_zero.2 h] at this; omega
    have := bl_words hn X.toNat (by rw [← HL.out, Nat.add_sub_cancel, HX.out, Int.toNat_of_nonneg DX.out.1]) (by have := DX.out; omega)
    rw [this, bl_eq_bitLen _ (by have := DX.out; omega), ← HL.out]
    have h2 : bl X.toNat ≤ 32 := bl_le_of (by have := DX.out; omega)
    unfold wrap64
    omega

theorem shr_zero {N m L : Nat} (hl : (words N).length = L) (h : 32 * L ≤ m) : N / 2 ^ m = 0 := by
  rw [Nat.div_eq_zero_iff]
  right
  have h1 := words_lt N
  rw [hl, show 4294967296 = 2 ^ 32 from rfl, ← Nat.pow_mul] at h1
  exact Nat.lt_of_lt_of_le h1 (Nat.pow_le_pow_right (by decide) h)

theorem add_pos (ad : Addr) (n : Nat) (h : 0 < n) : ad.add n = ⟨ad.block, ad.off + n, none⟩ := by unfold Addr.add; split <;> simp_all

/-- A shift to the right. -/
def RetPair (N : Nat) (w : World) (e : Ending) (w' : World) : Prop := ∃ v', e = .returned (.tuple #[v', .int .i64 0]) ∧ Rd w' v' (words N) ∧ Below w.heap.size w w'

set_option maxHeartbeats 800000 in
theorem shr_any (w : World) (v : Value) (N m : Nat) (h : Rd w v (words N)) (hk : (words N).length ≤ 2000) (hm0 : 0 < m) (hm1 : m ≤ 100000) :
    Calls Tryz.prog 128 #[v, .int .i64 (-(m : Int))] w (RetPair (N / 2 ^ m) w) := by
  have HK := Aside0.mk hk
  go_enter Tryz.func128, Tryz.ntmps128
  go_wp2_with fail
  refine (trim_num _ _ N h).mono ?_
  intro e w1 hr1
  obtain ⟨n1, A1, c1, rfl, HL1, hc1, hm1', HC1, HB1⟩ := hr1.elim
  have hb1 : n1 ≤ 2000 := by have := HL1.out; have := HK.out; omega
  clear hr1 h hk hm1'
  go_wp2_with fail
  refine (large_num _ _ N (C_rd HC1.out hc1) HK.out).mono ?_
  rintro e w2 ⟨rfl, hb2⟩
  have HB2 := Aside0.mk hb2
  clear hb2
  by_cases hz : 32 * n1 ≤ m
  · go_wp2_with fail
    exact bodyPost_ret (v := .tuple #[.slice none 0 0, .int .i64 0]) (by simp [results, Tryz.results128, go_sem]) rfl ⟨_, rfl, by rw [shr_zero HL1.out.symm hz, words_zero]; exact ⟨none, 0, rfl, Nat.le_refl _, Kd.C_nil _ _⟩, HB1.out.trans (HB2.out.mono HB1.out.size)⟩
  · have hcd := Kd.C_drop (m := m / 32) (c := c1) (k := Kd.int .u32) (xs := words N) (w := w2) (A := A1) (by have := Kd.C_below HC1.out HB2.out; rwa [HL1.out] at this) (by have := HL1.out; omega) (by have := HL1.out; omega)
    rw [if_neg (by omega), show (Kd.int IntKind.u32).sz = 1 from rfl, Nat.mul_one, List.length_drop, ← HL1.out] at hcd
    have HCD := Aside0.mk hcd
    have HZ := Aside0.mk hz
    clear hcd
    go_upto_region 9 with (fail)
    clear hz
    have hn2 : 0 < n1 - m / 32 := by have := HZ.out; omega
    have hnc : n1 - m / 32 ≤ c1 - m / 32 := by omega
    have hnl : n1 - m / 32 ≤ 2000 := by omega
    generalize hA : Option.map (fun x => Addr.add x (m / 32)) A1 = A2 at *
    generalize hn : n1 - m / 32 = n2 at *
    generalize hc : c1 - m / 32 = c2 at *
    have HX := Aside0.mk hn
    clear hA hn hc
    go_wp2_with (refine mk_u32 (.tmp 49) (.tmp 49) rfl rfl rfl _ rfl rfl ?m1 ?m2 ?_)
    case m1 => omega
    case m2 => omega
    intro v5 w5 ho hb3
    obtain ⟨g, cap, rfl, hg1, hg2⟩ := ho.form (by simp; exact hn2)
    rw [List.length_replicate] at ho ⊢
    have HB5 := Aside0.mk hb3
    have HO := Aside0.mk ho
    have HG := Aside0.mk hg1
    clear ho hb3 hg1 hg2
    go_wp2_with fail
    obtain ⟨s, hs⟩ : ∃ s : Nat, (m : Int) % 32 = s := ⟨m % 32, by omega⟩
    rw [hs]
    have HS := Aside0.mk (show s < 32 ∧ m = 32 * (m / 32) + s by omega)
    obtain ⟨L, hL⟩ : ∃ L, L = (words N).drop (m / 32) := ⟨_, rfl⟩
    rw [← hL] at HCD
    have hll : L.length = n2 := Kd.C_len HCD.out
    have hld : Dg L := by rw [hL]; exact dg_drop (dg_words N) _
    have hlv : val L = N / 4294967296 ^ (m / 32) := by
      have h1 := val_take_drop (words N) (m / 32) (by have := HL1.out; have := HX.out; omega)
      have h2 := val_lt (dg_take (dg_words N) (m / 32))
      rw [List.length_take, Nat.min_eq_left (by have := HL1.out; have := HX.out; omega)] at h2
      rw [val_words, ← hL] at h1
      rw [h1, Nat.add_mul_div_left _ _ (Nat.pow_pos (by decide)), Nat.div_eq_of_lt h2, Nat.zero_add]
    have HLL := Aside0.mk hll
    have HLD := Aside0.mk hld
    have HLV := Aside0.mk hlv
    clear hs hL hll hld hlv
    go_loopg [53] n2 (fun k v53 w' => ∃ (i : Nat) (O : List Int), v53 = .int .i64 (i : Int) ∧ k + i = n2 ∧ Aside0 (O.length = n2) ∧ Aside0 (Dg O) ∧ Aside0 (val (O.take i) + 4294967296 ^ i * (val (L.drop i) / 2 ^ s) = val L / 2 ^ s) ∧ Aside0 (Ow w' w2.heap.size (.slice (some ⟨g, 0, none⟩) n2 cap) O) ∧ Aside0 (Below w2.heap.size w2 w'))
    case atStart => exact ⟨0, _, rfl, rfl, ⟨List.length_replicate⟩, ⟨dg_replicate _⟩, ⟨by simp [val]⟩, HO, HB5⟩
    case round =>
      clear HO HB5
      obtain ⟨i, O, rfl, hki, HOL, HOD, HV, HO, HB5⟩ := hrel
      have HQ := Aside0.mk hki
      by_cases hlt : i < n2
      · obtain ⟨ad, X, rfl, HXX, hx⟩ := C_at (Kd.C_below HCD.out HB5.out) i hlt
        obtain ⟨Z, HZZ, ho1, ho2⟩ := HO.out.cell i hlt
        have DX := Aside0.mk (HXX.out ▸ dg_getD HLD.out i : 0 ≤ X ∧ X < 4294967296)
        obtain ⟨x, rfl⟩ := Int.eq_ofNat_of_zero_le DX.out.1
        have hw1 : IntKind.u64.wrap (x : Int) = x := by have := DX.out; rw [IntKind.wrap_u64]; omega
        have hs32 := HS.out.1
        by_cases hlt2 : i + 1 < n2
        · obtain ⟨ad2, Y, he, HYY, hy⟩ := C_at (Kd.C_below HCD.out HB5.out) (i + 1) hlt2
          injection he with he
          subst he
          rw [add_pos _ _ (Nat.succ_pos i)] at hy
          have DY := Aside0.mk (HYY.out ▸ dg_getD HLD.out (i + 1) : 0 ≤ Y ∧ Y < 4294967296)
          obtain ⟨y, rfl⟩ := Int.eq_ofNat_of_zero_le DY.out.1
          have HST := Aside0.mk (shr_step L O i s x y HS.out.1 (by have := HOL.out; omega) HXX.out HYY.out (by have := DX.out; omega) HV.out)
          obtain ⟨T, hT⟩ : ∃ T, T = x + 4294967296 * y := ⟨_, rfl⟩
          have hw2 : IntKind.u64.wrap (y : Int) = y := by have := DY.out; rw [IntKind.wrap_u64]; omega
          have hw3 : IntKind.u64.wrap ((y : Int) * 4294967296) = (y : Int) * 4294967296 := by have := DY.out; rw [IntKind.wrap_u64]; omega
          have hw4 : bits .or .u64 (x : Int) ((y : Int) * 4294967296) = (T : Int) := by
            have h1 := DX.out
            have h2 := DY.out
            have := u64_or_low (a := y) (b := x) (s := 32) (by omega) (by omega)
            rw [show ((2 ^ 32 * y : Nat) : Int) = (y : Int) * 4294967296 by omega] at this
            rw [this]; omega
          obtain ⟨R, hR⟩ : ∃ R : Nat, R = T / 2 ^ s % 4294967296 := ⟨_, rfl⟩
          have hw5 : (T : Int) / 2 ^ s % 4294967296 = (R : Int) := by rw [hR]; simp
          rw [← hT, ← hR] at HST
          have hRb : R < 4294967296 := by omega
          have HRB := Aside0.mk hRb
          clear hT hR hki hRb
          go_wp2_with fail
          go_roundg (gk - 1)
          case measure => have := HQ.out; omega
          case rel => exact ⟨i + 1, O.set i (R : Int), by go_num, by have := HQ.out; omega, ⟨by rw [List.length_set]; exact HOL.out⟩, ⟨dg_set HOD.out _ _ (by have := HRB.out; omega)⟩, ⟨HST.out⟩, ⟨HO.out.put i _⟩, ⟨HB5.out.setCell HG.out _⟩⟩
        · have HST := Aside0.mk (shr_step L O i s x 0 HS.out.1 (by have := HOL.out; omega) HXX.out (getD_ge (by have := HLL.out; omega)) (by have := DX.out; omega) HV.out)
          obtain ⟨R, hR⟩ : ∃ R : Nat, R = x / 2 ^ s % 4294967296 := ⟨_, rfl⟩
          have hw5 : (x : Int) / 2 ^ s % 4294967296 = (R : Int) := by rw [hR]; simp
          simp only [Nat.mul_zero, Nat.add_zero] at HST
          rw [← hR] at HST
          have hRb : R < 4294967296 := by omega
          have HRB := Aside0.mk hRb
          clear hR hki hRb
          go_wp2_with fail
          go_roundg (gk - 1)
          case measure => have := HQ.out; omega
          case rel => exact ⟨i + 1, O.set i (R : Int), by go_num, by have := HQ.out; omega, ⟨by rw [List.length_set]; exact HOL.out⟩, ⟨dg_set HOD.out _ _ (by have := HRB.out; omega)⟩, ⟨HST.out⟩, ⟨HO.out.put i _⟩, ⟨HB5.out.setCell HG.out _⟩⟩
      · obtain rfl : i = n2 := by omega
        clear hlt hki
        have HV2 := Aside0.mk (show val O = N / 2 ^ m by
          have := HV.out
          rw [List.take_of_length_le (l := O) (by rw [HOL.out]; exact Nat.le_refl _), List.drop_of_length_le (l := L) (by rw [HLL.out]; exact Nat.le_refl _)] at this
          simp only [val, Nat.zero_div, Nat.mul_zero, Nat.add_zero] at this
          rw [this, HLV.out, Nat.div_div_eq_div_mul, show 4294967296 = 2 ^ 32 from rfl, ← Nat.pow_mul, ← Nat.pow_add, ← HS.out.2])
        go_wp2_with (go_at_call 101; refine (trim_any _ _ O HOD.out HO.out.reads).mono ?_; rintro e w9 ⟨v9, rfl, hr9, hb9⟩)
        rw [HV2.out] at hr9
        exact bodyPost_ret (v := .tuple #[v9, .int .i64 0]) (by simp [results, Tryz.results128, go_sem]) rfl ⟨v9, rfl, hr9, ((HB1.out.trans (HB2.out.mono HB1.out.size)).trans (HB5.out.mono (Nat.le_trans HB1.out.size HB2.out.size))).trans (hb9.mono (Nat.le_trans (Nat.le_trans HB1.out.size HB2.out.size) HB5.out.size))⟩

set_option maxRecDepth 10000 in
set_option maxHeartbeats 1600000 in
theorem shl_any (w : World) (v : Value) (N m : Nat) (h : Rd w v (words N)) (hk : (words N).length ≤ 1000) (hm1 : m ≤ 30000) :
    Calls Tryz.prog 128 #[v, .int .i64 (m : Int)] w (RetPair (N * 2 ^ m) w) := by
  have HK := Aside0.mk hk
  go_enter Tryz.func128, Tryz.ntmps128
  go_wp2_with fail
  refine (trim_num _ _ N h).mono ?_
  intro e w1 hr1
  obtain ⟨n1, A1, c1, rfl, HL1, hc1, hm1', HC1, HB1⟩ := hr1.elim
  have hb1 : n1 ≤ 1000 := by have := HL1.out; have := HK.out; omega
  clear hr1 h hk hm1'
  go_wp2_with fail
  refine (large_num _ _ N (C_rd HC1.out hc1) (by have := HK.out; omega)).mono ?_
  rintro e w2 ⟨rfl, hb2⟩
  have HB := Aside0.mk (HB1.out.trans (hb2.mono HB1.out.size))
  have HC := Aside0.mk (Kd.C_below HC1.out hb2)
  clear hb2 HC1 HB1
  obtain ⟨q, hq⟩ : ∃ q, q = m / 32 := ⟨_, rfl⟩
  obtain ⟨s, hs⟩ : ∃ s, s = m % 32 := ⟨_, rfl⟩
  have HM := Aside0.mk (show m = 32 * q + s ∧ s < 32 ∧ q ≤ 940 by omega)
  obtain ⟨Z, hZ, hZo⟩ := mk_run q (by omega)
  have hr1 : IntKind.i64.wrap ((m : Int) / 32) = (q : Int) := by rw [IntKind.wrap_i64]; omega
  have hr2 : (m : Int).tmod 32 = (s : Int) := by rw [Int.tmod_eq_emod_of_nonneg (by omega)]; omega
  have HZ := Aside0.mk hZo
  clear hZo hq hs
  have HRD := Aside0.mk (C_rd HC.out hc1)
  have hlw : (words N).length ≤ 100000 := by have := HK.out; omega
  have HLW := Aside0.mk hlw
  clear hlw
  have hbz : ∀ W : World, Below w2.heap.size w2 W → Below w2.heap.size w2 (W.alloc Z) := fun W h => below_alloc h Z
  have hfin : ∀ O : List Int, O.length = (words N).length + 1 → val O = N * 2 ^ s → Dg O → Dg (List.replicate q 0 ++ O) ∧ val (List.replicate q 0 ++ O) = N * 2 ^ m ∧ (words (val (List.replicate q 0 ++ O))).length ≤ 2000 ∧ (List.replicate q (0 : Int)).length + O.length ≤ 1000000 := by
    intro O h1 h2 h3
    have e1 : val (List.replicate q 0 ++ O) = N * 2 ^ m := by
      rw [val_append, val_replicate, List.length_replicate, h2, Nat.zero_add, show 4294967296 = 2 ^ 32 from rfl, ← Nat.pow_mul]
      rw [Nat.mul_comm, Nat.mul_assoc, ← Nat.pow_add, Nat.add_comm s, ← HM.out.1]
    have hd : Dg (List.replicate q 0 ++ O) := dg_append.2 ⟨dg_replicate _, h3⟩
    refine ⟨hd, e1, ?_, ?_⟩
    · refine Nat.le_trans (words_len_le (val_lt hd)) ?_
      rw [List.length_append, List.length_replicate, h1]
      have := HK.out; have := HM.out.2.2; omega
    · rw [List.length_replicate, h1]; have := HK.out; have := HM.out.2.2; omega
  have HF := Aside0.mk hfin
  have HBZ := Aside0.mk hbz
  clear hfin hbz
  go_wp2_with fail
  go_region_law (first
    | (go_simp; go_at_call 137; refine (moved_any _ _ (words N) s (dg_words N) (HRD.out.below (by repeat first | exact Below.refl _ _ | apply below_drew1 | apply below_alloc)) HLW.out HM.out.2.1).mono ?_; rintro e w9 ⟨v9, O9, rfl, ho9, hd9, hl9, hv9, hb9⟩; have HB9 := Aside0.mk hb9; obtain ⟨g9, cap9, rfl, _, _⟩ := ho9.form (by omega); have HO9 := Aside0.mk (And.intro hd9 (And.intro hl9 (And.intro (hv9.trans (by rw [val_words])) (And.intro ho9 (Kd.R_reads' ho9).2.2)))); have HB92 := Aside0.mk (show Below w2.heap.size w2 w9 from Below.trans (by repeat first | exact Below.refl _ _ | apply below_drew1 | apply below_alloc) (hb9.mono (by simp))); clear ho9 hd9 hl9 hv9 hb9)
    | (go_simp; go_at_call 131; refine (fits_any _ _ (List.replicate q 0 ++ O9) (HF.out O9 HO9.out.2.1 HO9.out.2.2.1 HO9.out.1).1 HO10.out.reads (HF.out O9 HO9.out.2.1 HO9.out.2.2.1 HO9.out.1).2.2.1).mono ?_; rintro e w11 ⟨v11, rfl, hr11, hb11⟩; have HR11 := Aside0.mk hr11; have HB11 := Aside0.mk hb11; clear hr11 hb11)
    | (refine app_step (w0 := w2) (.tmp 25) (.tmp 29) w2.heap.size rfl rfl _ (List.replicate q 0) O9 _ _ _ rfl rfl (by first | exact (HZ.out w2 _ (Nat.le_refl _)).drew.below (by exact HB9.out) | exact HZ.out w9 _ HB92.out.size) (by first | exact HO9.out.2.2.2.2 | exact Kd.C_alloc HO9.out.2.2.2.2 _) (by first | exact HB92.out | exact HBZ.out _ HB92.out) (by first | exact HB92.out.size | exact (HBZ.out _ HB92.out).size) (HF.out O9 HO9.out.2.1 HO9.out.2.2.1 HO9.out.1).2.2.2 ?_; intro v10 w10 ho10 hb10; have HO10 := Aside0.mk ho10; have HB10 := Aside0.mk hb10; clear ho10 hb10))
  all_goals
    have HV := (HF.out O9 HO9.out.2.1 HO9.out.2.2.1 HO9.out.1).2.1
    rw [HV] at HR11
    have HR := Aside0.mk (show Below w.heap.size w w11 from (HB.out.trans (HB10.out.mono HB.out.size)).trans (HB11.out.mono (Nat.le_trans HB.out.size HB10.out.size)))
    clear hr1 hr2
    go_wp2_with fail
    exact bodyPost_ret (v := .tuple #[v11, .int .i64 0]) (by simp [results, Tryz.results128, go_sem]) rfl ⟨v11, rfl, HR11.out, HR.out⟩

end Go.Proofs.YthknbknmlnnhcaaGreatDoor
