/- Walks: bobbinref2.Bits, Low, Shift. -/
import Derived.Test.YthknbknmlnnhcaaGreatDoorWn
namespace Go.Proofs.YthknbknmlnnhcaaGreatDoor
open Go.RowKit Go.Proofs.YthknbknmlnnhcaaGreatDoorW.PrintWords Bob
set_option linter.unusedVariables false
set_option linter.unusedSimpArgs false

theorem bl_half {x : Nat} (h : x ≠ 0) : bl (x / 2) + 1 = bl x := by
  by_cases h1 : x = 1
  · subst h1; rfl
  · have h2 : x / 2 ≠ 0 := by omega
    obtain ⟨h3, h4⟩ := bl_le h2
    have h5 := bl_lt (x / 2)
    refine (bl_unique (by omega) ?_ ?_).symm
    · rw [Nat.add_sub_cancel, show bl (x / 2) = bl (x / 2) - 1 + 1 by omega, Nat.pow_succ]; omega
    · rw [Nat.pow_succ]; omega

set_option maxHeartbeats 400000 in
theorem rbits_any (w : World) (v : Value) (N : Nat) (h : Rd w v (words N)) (hk : (words N).length ≤ 100000) : Calls Tryz.prog 52 #[v] w fun e w' => e = .returned (.int .i64 (bl N : Int)) ∧ Below w.heap.size w w' := by
  have HK := Aside0.mk hk
  go_enter Tryz.func52, Tryz.ntmps52
  go_wp2_with fail
  refine (rtrimmed_num _ _ N h).mono ?_
  intro e w1 hr1
  obtain ⟨n1, A1, c1, rfl, HL1, hc1, hm1, HC1, HB1⟩ := hr1.elim
  have hb1 : n1 ≤ 100000 := by have := HL1.out; have := HK.out; omega
  clear hr1 h hk hm1
  cases n1 with
  | zero =>
    have e : N = 0 := words_len_zero.1 HL1.out.symm
    go_wp2_with fail
    go_ret
    exact ⟨by rw [e]; rfl, HB1.out⟩
  | succ m =>
    have hne : N ≠ 0 := fun e => by have := HL1.out; rw [e, words_zero] at this; cases this
    obtain ⟨ad, X, rfl, HX, hx⟩ := C_at HC1.out m (by omega)
    have DX := HX.out ▸ dg_getD (dg_words N) m
    obtain ⟨x, rfl⟩ := Int.eq_ofNat_of_zero_le DX.1
    have HXX := Aside0.mk (bl_words hne x (by rw [← HL1.out, Nat.add_sub_cancel]; exact HX.out) (by omega))
    rw [← HL1.out, Nat.add_sub_cancel] at HXX
    clear hne
    go_wp2_with fail
    go_loopg [3, 4] 32 (fun k v3 v4 w' => ∃ (y n : Nat), v3 = .int .i64 (n : Int) ∧ v4 = .int .u32 (y : Int) ∧ y < 4294967296 ∧ bl y ≤ k ∧ n ≤ 6400000 ∧ Aside0 (n + bl y = bl N) ∧ Aside0 (Below w.heap.size w w'))
    case atStart => exact ⟨x, m * 32, congrArg (Value.int .i64) (by omega), rfl, by omega, bl_le_of (by omega), by omega, ⟨HXX.out.symm⟩, HB1⟩
    case round =>
      obtain ⟨y, n, rfl, rfl, hy, hk, hn, HE, HB⟩ := hrel
      by_cases hy0 : y = 0
      · subst hy0
        go_wp2_with fail
        go_ret
        exact ⟨ret_int (by have := HE.out; rw [bl_zero] at this; omega), HB.out⟩
      · have hh := bl_half hy0
        have HH := Aside0.mk hh
        have hn2 : n ≤ 3200032 := by
          have h1 := HE.out
          have h2 : bl N ≤ 100000 * 32 := bl_words_bound HK.out
          omega
        clear hh
        go_wp2_with fail
        go_roundg (bl (y / 2))
        case measure => have := HH.out; omega
        case rel => exact ⟨y / 2, n + 1, by go_num, by go_num, by omega, Nat.le_refl _, by omega, ⟨by have := HH.out; have := HE.out; omega⟩, HB⟩

theorem words_low (N : Nat) : ((words N).getD 0 0).toNat + 4294967296 * ((words N).getD 1 0).toNat = N % 18446744073709551616 := by
  by_cases h : N = 0
  · subst h; rw [words_zero]; rfl
  · rw [words_pos h, List.getD_cons_zero, List.getD_cons_succ]
    by_cases h2 : N / 4294967296 = 0
    · rw [h2, words_zero]; simp; omega
    · rw [words_pos h2, List.getD_cons_zero]; omega

set_option maxHeartbeats 400000 in
theorem rlow_any (w : World) (v : Value) (N : Nat) (h : Rd w v (words N)) (hk : (words N).length ≤ 100000) : Calls Tryz.prog 114 #[v] w fun e w' => e = .returned (.int .u64 ((N % 18446744073709551616 : Nat) : Int)) ∧ w' = w := by
  obtain ⟨n1, A1, c1, rfl, HL1, hc1, hm1, HC1⟩ := h.elim
  have HW := Aside0.mk (words_low N)
  clear h hm1
  have hb1 : n1 ≤ 100000 := HL1.out ▸ hk
  clear hk
  go_enter Tryz.func114, Tryz.ntmps114
  by_cases h0 : n1 = 0
  · subst h0
    rw [getD_ge (by have := HL1.out; omega), getD_ge (by have := HL1.out; omega)] at HW
    go_wp2_with fail
    go_ret
    exact ⟨ret_int (by have := HW.out; simp only [Int.toNat_zero] at this; omega), rfl⟩
  · obtain ⟨ad, X, rfl, HX, hx⟩ := C_at HC1.out 0 (by omega)
    rw [show ad.add 0 = ad from rfl] at hx
    have DX := HX.out ▸ dg_getD (dg_words N) 0
    rw [HX.out] at HW
    by_cases h1 : n1 = 1
    · subst h1
      rw [getD_ge (l := words N) (i := 1) (by have := HL1.out; omega)] at HW
      go_wp2_with fail
      go_ret
      exact ⟨ret_int (by have := HW.out; simp only [Int.toNat_zero] at this; omega), rfl⟩
    · obtain ⟨ad2, Y, he, HY, hy⟩ := C_at HC1.out 1 (by omega)
      injection he with he
      subst he
      rw [add_pos _ _ (by decide)] at hy
      have DY := HY.out ▸ dg_getD (dg_words N) 1
      rw [HY.out] at HW
      obtain ⟨x, rfl⟩ := Int.eq_ofNat_of_zero_le DX.1
      obtain ⟨y, rfl⟩ := Int.eq_ofNat_of_zero_le DY.1
      have hw3 : IntKind.u64.wrap ((y : Int) * 4294967296) = (y : Int) * 4294967296 := by rw [IntKind.wrap_u64]; omega
      have hw4 : bits .or .u64 (x : Int) ((y : Int) * 4294967296) = ((N % 18446744073709551616 : Nat) : Int) := by
        have := u64_or_low (a := y) (b := x) (s := 32) (by omega) (by omega)
        rw [show ((2 ^ 32 * y : Nat) : Int) = (y : Int) * 4294967296 by omega] at this
        rw [this]
        have := HW.out
        simp only [Int.toNat_natCast] at this
        omega
      go_wp2_with fail

      go_ret
      exact ⟨rfl, rfl⟩

end Go.Proofs.YthknbknmlnnhcaaGreatDoor
