/- Walks: bobbinref2.Shift. -/
import Derived.Test.YthknbknmlnnhcaaGreatDoorWo
namespace Go.Proofs.YthknbknmlnnhcaaGreatDoor
open Go.RowKit Go.Proofs.YthknbknmlnnhcaaGreatDoorW.PrintWords Bob
set_option linter.unusedVariables false
set_option linter.unusedSimpArgs false

theorem getD_pad (l : List Int) (q i : Nat) : (List.replicate q 0 ++ l).getD (q + i) 0 = l.getD i 0 := by
  rw [List.getD_eq_getElem?_getD, List.getD_eq_getElem?_getD, List.getElem?_append_right (by simp), List.length_replicate, Nat.add_sub_cancel_left]
theorem val_pad (l : List Int) (q : Nat) : val (List.replicate q 0 ++ l) = 4294967296 ^ q * val l := by
  rw [val_append, val_replicate, List.length_replicate, Nat.zero_add]
theorem getD_rep (n i : Nat) : (List.replicate n (0 : Int)).getD i 0 = 0 := by
  rw [List.getD_eq_getElem?_getD, List.getElem?_replicate]; split <;> rfl
theorem val_take_rep (n i : Nat) : val ((List.replicate n (0 : Int)).take i) = 0 := by
  rw [List.take_replicate, val_replicate]
theorem val_take_pad (l : List Int) (q : Nat) : val ((List.replicate q 0 ++ l).take q) = 0 := by
  rw [List.take_append_of_le_length (by simp), List.take_of_length_le (by simp), val_replicate]

set_option maxRecDepth 100000 in
set_option maxHeartbeats 2000000 in
theorem rshl_any (w : World) (v : Value) (N m : Nat) (h : Rd w v (words N)) (hk : (words N).length ≤ 1000) (hm0 : 0 < m) (hm1 : m ≤ 30000) :
    Calls Tryz.prog 51 #[v, .int .i64 (m : Int)] w (RetPair (N * 2 ^ m) w) := by
  have HK := Aside0.mk hk
  go_enter Tryz.func51, Tryz.ntmps51
  go_wp2_with fail
  refine (rlarge_num _ _ N h (by omega)).mono ?_
  rintro e w1 ⟨rfl, hb1⟩
  have h2 := h.below hb1
  have HB1 := Aside0.mk hb1
  clear h hb1
  go_wp2_with fail
  refine (rtrimmed_num _ _ N h2).mono ?_
  intro e w2 hr1
  obtain ⟨n1, A1, c1, rfl, HL1, hc1, hm1', HC1, HB2⟩ := hr1.elim
  have hb1 : n1 ≤ 1000 := by have := HL1.out; have := HK.out; omega
  have HB := Aside0.mk (HB1.out.trans (HB2.out.mono HB1.out.size))
  clear hr1 h2 hk hm1' HB1 HB2
  obtain ⟨q, hq⟩ : ∃ q, q = m / 32 := ⟨_, rfl⟩
  obtain ⟨s, hs⟩ : ∃ s, s = m % 32 := ⟨_, rfl⟩
  have HM := Aside0.mk (show m = 32 * q + s ∧ s < 32 ∧ q ≤ 940 by omega)
  have hq1 : q ≤ 940 := HM.out.2.2
  have hs1 : s < 32 := HM.out.2.1
  have hr1 : (m : Int) / 32 = (q : Int) := by omega
  have hr2 : (m : Int) % 32 = (s : Int) := by omega
  have hr3 : (m : Int).tdiv 32 = (q : Int) := by rw [Int.tdiv_eq_ediv_of_nonneg (by omega)]; omega
  have hr4 : (m : Int).tmod 32 = (s : Int) := by rw [Int.tmod_eq_emod_of_nonneg (by omega)]; omega
  obtain ⟨L, hL⟩ : ∃ L, L = List.replicate q 0 ++ words N := ⟨_, rfl⟩
  have HLL := Aside0.mk hL
  clear hq hs hL
  go_wp2_with (refine mk_u32 (.tmp 27) (.tmp 27) rfl rfl rfl _ rfl rfl ?m1 ?m2 ?_)
  case m1 => omega
  case m2 => omega
  intro v5 w5 ho hb3
  have hlen : ((n1 : Int) + q + 1).toNat = n1 + q + 1 := by omega
  rw [hlen] at ho
  obtain ⟨g, cap, rfl, hg1, hg2⟩ := ho.form (by simp)
  rw [List.length_replicate] at ho ⊢
  have HB5 := Aside0.mk hb3
  have HO := Aside0.mk ho
  have HG := Aside0.mk hg1
  clear ho hb3 hg1 hg2 hlen
  go_wp2_with fail
  go_loopg [7] n1 (fun k v7 w' => ∃ (i : Nat) (O : List Int), v7 = .int .i64 (i : Int) ∧ k + i = n1 ∧ Aside0 (O.length = n1 + q + 1) ∧ Aside0 (Dg O) ∧ Aside0 (val (O.take (q + i + 1)) = val (L.take (q + i)) * 2 ^ s) ∧ Aside0 (O.getD (q + i) 0 < 2 ^ s) ∧ Aside0 (∀ k, q + i < k → O.getD k 0 = 0) ∧ Aside0 (Ow w' w2.heap.size (.slice (some ⟨g, 0, none⟩) (n1 + q + 1) cap) O) ∧ Aside0 (Below w2.heap.size w2 w'))
  case atStart => exact ⟨0, _, rfl, rfl, ⟨List.length_replicate⟩, ⟨dg_replicate _⟩, ⟨by rw [HLL.out]; show val ((List.replicate (n1 + q + 1) 0).take (q + 1)) = val ((List.replicate q 0 ++ words N).take q) * 2 ^ s; rw [val_take_pad, val_take_rep, Nat.zero_mul]⟩, ⟨by rw [getD_rep]; exact Int.pow_pos (by decide)⟩, ⟨fun k _ => getD_rep _ _⟩, HO, HB5⟩
  case round =>
    clear HO HB5
    obtain ⟨i, O, rfl, hki, HQL, HQD, HV, HT, HZ0, HO, HB5⟩ := hrel
    have HQ := Aside0.mk hki
    by_cases hlt : i < n1
    · obtain ⟨ad1, X, rfl, HX, hx⟩ := C_at (Kd.C_below HC1.out HB5.out) i hlt
      obtain ⟨Z, HZ, ho1, ho2⟩ := HO.out.cell (i + q) (by omega)
      obtain ⟨Z2, HZ2, ho3, ho4⟩ := HO.out.cell (i + q + 1) (by omega)
      obtain rfl : Z2 = 0 := HZ2.out.symm.trans (HZ0.out _ (by omega))
      have DX := Aside0.mk (HX.out ▸ dg_getD (dg_words N) i : 0 ≤ X ∧ X < 4294967296)
      have DZ := Aside0.mk (HZ.out ▸ dg_getD HQD.out (i + q) : 0 ≤ Z ∧ Z < 4294967296)
      obtain ⟨x, rfl⟩ := Int.eq_ofNat_of_zero_le DX.out.1
      obtain ⟨z, rfl⟩ := Int.eq_ofNat_of_zero_le DZ.out.1
      have hw1 : IntKind.u64.wrap (x : Int) = x := by have := DX.out; rw [IntKind.wrap_u64]; omega
      have hzz : z < 2 ^ s := by
        have h1 := HT.out
        rw [Nat.add_comm, HZ.out] at h1
        have h2 : ((2 ^ s : Nat) : Int) = (2 : Int) ^ s := by simp
        omega
      have hst := moved_step L O (q + i) s x z HM.out.2.1 (by have := HQL.out; omega) (by rw [HLL.out, getD_pad]; exact HX.out) (by have := DX.out; omega) (by rw [Nat.add_comm]; exact HZ.out) hzz HV.out
      obtain ⟨T, hT⟩ : ∃ T : Nat, T = x * 2 ^ s := ⟨_, rfl⟩
      obtain ⟨LL, hLL⟩ : ∃ L : Nat, L = z + T % 4294967296 := ⟨_, rfl⟩
      obtain ⟨H, hH⟩ : ∃ H : Nat, H = T / 4294967296 := ⟨_, rfl⟩
      have hTi : (T : Int) = (x : Int) * 2 ^ s := by rw [hT]; simp
      have hw2 : IntKind.u64.wrap ((x : Int) * 2 ^ s) = (T : Int) := by
        rw [← hTi, IntKind.wrap_u64]; have := hst.2.2.2.2; rw [← hT] at this; omega
      have hw3 : bits .or .u32 (z : Int) ((T : Int) % 4294967296) = (LL : Int) := by
        obtain ⟨t, ht, hlow⟩ := low_part (X := x) HM.out.2.1
        rw [← hT] at ht hlow
        rw [show (T : Int) % 4294967296 = ((2 ^ s * t : Nat) : Int) by rw [← ht]; omega, u32_or_low hzz (by omega), hLL, ht]
      have hw4 : (T : Int) / 4294967296 % 4294967296 = (H : Int) := by
        have := hst.2.2.2.1; rw [← hT] at this; rw [hH]; omega
      have hw5 : bits .or .u32 0 (H : Int) = (H : Int) := by
        have h3 := hst.2.2.2.1
        rw [← hT, ← hH] at h3
        have := u32_or_low (Z := 0) (t := H) (s := 0) (by decide) (by omega)
        simpa using this
      rw [← hT, ← hLL, ← hH] at hst
      have HSt := Aside0.mk hst
      clear hst hzz hT hLL hH hTi hki
      have HO1 := Aside0.mk (HO.out.put (i + q) (LL : Int))
      go_wp2_with fail
      go_roundg (gk - 1)
      case measure => have := HQ.out; omega
      case rel =>
        refine ⟨i + 1, (O.set (q + i) (LL : Int)).set (q + i + 1) (H : Int), by go_num, by have := HQ.out; omega, ⟨by rw [List.length_set, List.length_set]; exact HQL.out⟩, ⟨dg_set (dg_set HQD.out _ _ (by have := HSt.out.2.1; omega)) _ _ (by have := HSt.out.2.2.2.1; omega)⟩, ⟨HSt.out.1⟩, ⟨?_⟩, ⟨?_⟩, ⟨by rw [Nat.add_comm q i]; exact HO1.out.put (i + q + 1) _⟩, ⟨(HB5.out.setCell HG.out _).setCell HG.out _⟩⟩
        · rw [show q + (i + 1) = q + i + 1 by omega, getD_set _ _ _ _ (by rw [List.length_set]; have := HQL.out; omega), if_pos rfl]
          have h2 : ((2 ^ s : Nat) : Int) = (2 : Int) ^ s := by simp
          have := HSt.out.2.2.1
          omega
        · intro k hk
          rw [getD_set _ _ _ _ (by rw [List.length_set]; have := HQL.out; omega), if_neg (by omega), getD_set _ _ _ _ (by have := HQL.out; omega), if_neg (by omega)]
          exact HZ0.out k (by omega)
    · obtain rfl : i = n1 := by omega
      clear hlt hki
      have HV2 := Aside0.mk (show val O = N * 2 ^ m by
        have h1 := HV.out
        rw [List.take_of_length_le (by have := HQL.out; omega), List.take_of_length_le (by rw [HLL.out, List.length_append, List.length_replicate]; have := HL1.out; omega), HLL.out, val_pad, val_words] at h1
        rw [h1, HM.out.1, Nat.pow_add, show 4294967296 = 2 ^ 32 from rfl, ← Nat.pow_mul]
        grind)
      have HL3 : Aside0 ((words (N * 2 ^ m)).length ≤ 2000) := by
        refine ⟨?_⟩
        rw [← HV2.out]
        exact Nat.le_trans (words_len_le (val_lt HQD.out)) (by rw [HQL.out]; omega)
      clear hr1 hr2 hr3 hr4
      go_wp2_with (go_at_call 108; refine (rnorm_any _ _ O HQD.out HO.out.reads (by rw [HQL.out]; omega)).mono ?_; rw [HV2.out]; intro e w9 hr9; obtain ⟨n9, A9, c9, rfl, HL9, hc9, hm9, HC9, HB9⟩ := hr9.elim; have hl9 : n9 ≤ 2000 := (HL9.out ▸ HL3.out); clear hr9)
      exact bodyPost_ret (v := .tuple #[.slice A9 n9 c9, .int .i64 0]) (by simp [results, Tryz.results51, go_sem]) rfl ⟨_, rfl, C_rd HC9.out hc9, (HB.out.trans (HB5.out.mono HB.out.size)).trans (HB9.out.mono (Nat.le_trans HB.out.size HB5.out.size))⟩

theorem val_drop_div (N q : Nat) : val ((words N).drop q) = N / 4294967296 ^ q := by
  rcases Nat.lt_or_ge (words N).length q with h | h
  · rw [List.drop_of_length_le (by omega)]
    have h1 := words_lt N
    have h2 : (4294967296 : Nat) ^ (words N).length ≤ 4294967296 ^ q := Nat.pow_le_pow_right (by decide) (by omega)
    rw [Nat.div_eq_of_lt (by omega)]; rfl
  · have h1 := val_take_drop (words N) q h
    have h2 := val_lt (dg_take (dg_words N) q)
    rw [List.length_take, Nat.min_eq_left h] at h2
    rw [val_words] at h1
    have h3 : 0 < 4294967296 ^ q := Nat.pow_pos (by decide)
    generalize 4294967296 ^ q = p at *
    conv => rhs; rw [h1]
    rw [Nat.add_mul_div_left _ _ h3, Nat.div_eq_of_lt h2, Nat.zero_add]
theorem getD_drop' (l : List Int) (q i : Nat) : (l.drop q).getD i 0 = l.getD (q + i) 0 := by
  rw [List.getD_eq_getElem?_getD, List.getD_eq_getElem?_getD, List.getElem?_drop]

set_option maxRecDepth 100000 in
set_option maxHeartbeats 2000000 in
theorem rshr_any (w : World) (v : Value) (N m : Nat) (h : Rd w v (words N)) (hk : (words N).length ≤ 2000) (hm1 : m ≤ 63000) :
    Calls Tryz.prog 51 #[v, .int .i64 (-(m : Int))] w (RetPair (N / 2 ^ m) w) := by
  have HK := Aside0.mk hk
  obtain ⟨z, hz⟩ : ∃ z : Int, z = -(m : Int) := ⟨_, rfl⟩
  rw [← hz]
  have hz0 : z ≤ 0 := by omega
  have hz1 : -63000 ≤ z := by omega
  have hneg : IntKind.i64.wrap (-z) = (m : Int) := by rw [IntKind.wrap_i64]; omega
  clear hz
  go_enter Tryz.func51, Tryz.ntmps51
  go_wp2_with fail
  refine (rlarge_num _ _ N h (by omega)).mono ?_
  rintro e w1 ⟨rfl, hb1⟩
  have h2 := h.below hb1
  have HB1 := Aside0.mk hb1
  clear h hb1
  go_wp2_with fail
  refine (rtrimmed_num _ _ N h2).mono ?_
  intro e w2 hr1
  obtain ⟨n1, A1, c1, rfl, HL1, hc1, hm1', HC1, HB2⟩ := hr1.elim
  have hb1 : n1 ≤ 2000 := by have := HL1.out; have := HK.out; omega
  have HB := Aside0.mk (HB1.out.trans (HB2.out.mono HB1.out.size))
  clear hr1 h2 hk hm1' HB1 HB2
  obtain ⟨q, hq⟩ : ∃ q, q = m / 32 := ⟨_, rfl⟩
  obtain ⟨s, hs⟩ : ∃ s, s = m % 32 := ⟨_, rfl⟩
  have HM := Aside0.mk (show m = 32 * q + s ∧ s < 32 ∧ q ≤ 1970 by omega)
  have hq1 : q ≤ 1970 := HM.out.2.2
  have hs1 : s < 32 := HM.out.2.1
  have hr1 : (m : Int) / 32 = (q : Int) := by omega
  have hr2 : (m : Int) % 32 = (s : Int) := by omega
  have hr3 : (m : Int).tdiv 32 = (q : Int) := by rw [Int.tdiv_eq_ediv_of_nonneg (by omega)]; omega
  have hr4 : (m : Int).tmod 32 = (s : Int) := by rw [Int.tmod_eq_emod_of_nonneg (by omega)]; omega
  obtain ⟨L, hL⟩ : ∃ L, L = (words N).drop q := ⟨_, rfl⟩
  have HLL := Aside0.mk hL
  have HLD := Aside0.mk (show Dg L from hL ▸ dg_drop (dg_words N) q)
  have HLN := Aside0.mk (show L.length = n1 - q by rw [hL, List.length_drop, HL1.out])
  clear hq hs hL
  go_wp2_with fail
  go_loopg [9, 10] (n1 - q) (fun k v9 v10 w' => ∃ (i : Nat) (O : List Int), v10 = .int .i64 ((q : Int) + i) ∧ k + i = n1 - q ∧ Aside0 (O.length = i) ∧ Aside0 (Dg O) ∧ Aside0 (val O + 4294967296 ^ O.length * (val (L.drop O.length) / 2 ^ s) = val L / 2 ^ s) ∧ Aside0 (Ow w' w2.heap.size v9 O) ∧ Aside0 (Below w2.heap.size w2 w'))
  case atStart => exact ⟨0, [], congrArg (Value.int .i64) (by omega), rfl, ⟨rfl⟩, ⟨dg_nil⟩, ⟨by simp [val]⟩, ⟨Ow.nil _ _⟩, ⟨Below.refl _ _⟩⟩
  case round =>
    obtain ⟨i, O, rfl, hki, HQL, HQD, HV, HO, HB5⟩ := hrel
    have HQ := Aside0.mk hki
    by_cases hlt : q + i < n1
    · obtain ⟨ad1, X, rfl, HX, hx⟩ := C_at (Kd.C_below HC1.out HB5.out) (q + i) hlt
      have DX := Aside0.mk (HX.out ▸ dg_getD (dg_words N) (q + i) : 0 ≤ X ∧ X < 4294967296)
      obtain ⟨x, rfl⟩ := Int.eq_ofNat_of_zero_le DX.out.1
      have hw1 : IntKind.u64.wrap (x : Int) = x := by have := DX.out; rw [IntKind.wrap_u64]; omega
      by_cases hlt2 : q + i + 1 < n1
      · obtain ⟨ad2, Y, he, HYY, hy⟩ := C_at (Kd.C_below HC1.out HB5.out) (q + i + 1) hlt2
        injection he with he
        subst he
        rw [add_pos _ _ (Nat.succ_pos _)] at hy
        have DY := Aside0.mk (HYY.out ▸ dg_getD (dg_words N) (q + i + 1) : 0 ≤ Y ∧ Y < 4294967296)
        obtain ⟨y, rfl⟩ := Int.eq_ofNat_of_zero_le DY.out.1
        have HST := Aside0.mk (shr_step_append L O s x y HM.out.2.1 (by rw [HLL.out, getD_drop', HQL.out]; exact HX.out) (by rw [HLL.out, getD_drop', HQL.out]; exact HYY.out) (by have := DX.out; omega) HV.out)
        obtain ⟨T, hT⟩ : ∃ T, T = x + 4294967296 * y := ⟨_, rfl⟩
        have hw2 : IntKind.u64.wrap (y : Int) = y := by have := DY.out; rw [IntKind.wrap_u64]; omega
        have hw3 : IntKind.u64.wrap ((y : Int) * 4294967296) = (y : Int) * 4294967296 := by have := DY.out; rw [IntKind.wrap_u64]; omega
        have hw4 : bits .or .u64 (x : Int) ((y : Int) * 4294967296) = (T : Int) := by
          have h1 := DX.out
          have h2 := DY.out
          have := u64_or_low (a := y) (b := x) (s := 32) (by omega) (by omega)
          rw [show ((2 ^ 32 * y : Nat) : Int) = (y : Int) * 4294967296 by omega] at this
          rw [this, hT]; omega
        obtain ⟨R, hR⟩ : ∃ R : Nat, R = T / 2 ^ s % 4294967296 := ⟨_, rfl⟩
        have hw5 : (T : Int) / 2 ^ s % 4294967296 = (R : Int) := by rw [hR]; simp
        rw [← hT, ← hR] at HST
        have HRB := Aside0.mk (show R < 4294967296 by omega)
        clear hR
        clear hT
        go_wp2_with (at_builtin; refine app_one (w0 := w2) (.tmp 115) (.tmp 121) w2.heap.size rfl rfl _ O (R : Int) rfl rfl HO.out HB5.out HB5.out.size (by have := HQL.out; have := HQ.out; omega) ?_; intro v9 w9 ho9 hb9; have HO9 := Aside0.mk ho9; have HB9 := Aside0.mk hb9; clear ho9 hb9)
        go_roundg (gk - 1)
        case measure => have := HQ.out; omega
        case rel => exact ⟨i + 1, O ++ [(R : Int)], by go_num, by have := HQ.out; omega, ⟨by rw [List.length_append, HQL.out]; rfl⟩, ⟨dg_append.2 ⟨HQD.out, dg_cons.2 ⟨by have := HRB.out; omega, dg_nil⟩⟩⟩, ⟨by rw [List.length_append]; exact HST.out⟩, HO9, HB9⟩
      · have HST := Aside0.mk (shr_step_append L O s x 0 HM.out.2.1 (by rw [HLL.out, getD_drop', HQL.out]; exact HX.out) (getD_ge (by have := HLN.out; have := HQL.out; omega)) (by have := DX.out; omega) HV.out)
        rw [Nat.mul_zero, Nat.add_zero] at HST
        obtain ⟨R, hR⟩ : ∃ R : Nat, R = x / 2 ^ s % 4294967296 := ⟨_, rfl⟩
        have hw5 : (x : Int) / 2 ^ s % 4294967296 = (R : Int) := by rw [hR]; simp
        rw [← hR] at HST
        have HRB := Aside0.mk (show R < 4294967296 by omega)
        clear hR
        go_wp2_with (at_builtin; refine app_one (w0 := w2) (.tmp 115) (.tmp 121) w2.heap.size rfl rfl _ O (R : Int) rfl rfl HO.out HB5.out HB5.out.size (by have := HQL.out; have := HQ.out; omega) ?_; intro v9 w9 ho9 hb9; have HO9 := Aside0.mk ho9; have HB9 := Aside0.mk hb9; clear ho9 hb9)
        go_roundg (gk - 1)
        case measure => have := HQ.out; omega
        case rel => exact ⟨i + 1, O ++ [(R : Int)], by go_num, by have := HQ.out; omega, ⟨by rw [List.length_append, HQL.out]; rfl⟩, ⟨dg_append.2 ⟨HQD.out, dg_cons.2 ⟨by have := HRB.out; omega, dg_nil⟩⟩⟩, ⟨by rw [List.length_append]; exact HST.out⟩, HO9, HB9⟩
    · have HV2 := Aside0.mk (show val O = N / 2 ^ m by
        have h1 := HV.out
        rw [List.drop_of_length_le (by have := HLN.out; have := HQL.out; omega), HLL.out, val_drop_div] at h1
        simp only [val, Nat.zero_div, Nat.mul_zero, Nat.add_zero] at h1
        rw [h1, HM.out.1, Nat.pow_add, show 4294967296 = 2 ^ 32 from rfl, ← Nat.pow_mul, Nat.div_div_eq_div_mul])
      have hq9 : (n1 : Int) ≤ (q : Int) + i := by omega
      clear hr1 hr2 hr3 hr4
      go_wp2_with (go_at_call 108; refine (rnorm_any _ _ O HQD.out HO.out.reads (by rw [HQL.out]; have := HQ.out; omega)).mono ?_; rw [HV2.out]; rintro e w9 ⟨v9, rfl, hr9, hb9⟩)
      exact bodyPost_ret (v := .tuple #[v9, .int .i64 0]) (by simp [results, Tryz.results51, go_sem]) rfl ⟨_, rfl, hr9, (HB.out.trans (HB5.out.mono HB.out.size)).trans (hb9.mono (Nat.le_trans HB.out.size HB5.out.size))⟩

end Go.Proofs.YthknbknmlnnhcaaGreatDoor
