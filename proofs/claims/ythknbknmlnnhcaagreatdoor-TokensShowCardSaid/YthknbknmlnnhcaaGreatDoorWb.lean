/- Walks of package nat: large, Clone, Norm, fits, Compare. -/
import Derived.Test.YthknbknmlnnhcaaGreatDoorWa
namespace Go.Proofs.YthknbknmlnnhcaaGreatDoor
open Go.RowKit Go.Proofs.YthknbknmlnnhcaaGreatDoorW.PrintWords Bob
set_option linter.unusedVariables false
set_option linter.unusedSimpArgs false

theorem large_any (w : World) (v : Value) (l : List Int) (hd : Dg l) (h : Rd w v l) : Calls Tryz.prog 133 #[v] w fun e w' => e = .returned (.bool (decide (((words (val l)).length : Int) > 2000))) ∧ Below w.heap.size w w' := by
  go_enter Tryz.func133, Tryz.ntmps133
  go_wp2_with (go_at_call 101; refine (trim_any _ _ _ hd h).mono ?_; rintro e w1 ⟨v1, rfl, ⟨A, c, rfl, hc, hC⟩, hb⟩)
  go_ret
  exact ⟨rfl, hb⟩

theorem rd_nil_of {w : World} {A : Option Addr} {c : Nat} {l : List Int} (h : A = none) (hC : (Kd.int .u32).C w A l.length l) : l = [] := by
  subst h
  by_cases hp : 0 < l.length
  · obtain ⟨ad, e, _⟩ := hC.2.2 hp
    cases e
  · exact List.length_eq_zero_iff.1 (by omega)

theorem clone_any (w : World) (v : Value) (N : Nat) (h : Rd w v (words N)) (hl : (words N).length ≤ 1000000) : Calls Tryz.prog 134 #[v] w (RetNum N w) := by
  obtain ⟨A, c, rfl, hc, hC⟩ := h
  have hq := fun (w : World) (n c : Nat) => Lib.run_eql_slice_nil (P := Tryz.prog) w 66 108 A n c 0 0 Tryz.underlying66
  cases A with
  | none =>
    have e := rd_nil_of (c := c) rfl hC
    have HE := Aside0.mk e
    go_enter Tryz.func134, Tryz.ntmps134
    go_wp2
    go_ret
    exact ⟨_, rfl, by rw [HE.out]; exact ⟨none, 0, rfl, Nat.le_refl _, Kd.C_nil _ _⟩, Below.refl _ _⟩
  | some ad =>
    have HC := Aside0.mk hC
    have HL := Aside0.mk hl
    clear hC hl
    go_enter Tryz.func134, Tryz.ntmps134
    go_wp2_with (at_builtin; refine app_u32 (w0 := w) (.tmp 5) (.tmp 6) w.heap.size rfl rfl _ [] (words N) _ _ _ rfl rfl ?c1 ?c2 ?c3 ?c4 ?c5 ?_)
    case c1 => exact Ow.lit w w.heap.size [] (Nat.le_refl _) (by simp)
    case c2 => exact Kd.C_alloc HC.out _
    case c3 => exact (Below.refl _ _).alloc (Nat.le_refl _) _
    case c4 => simp
    case c5 => have := HL.out; simp; omega
    intro v1 w1 ho hb
    go_wp2
    go_ret
    exact ⟨_, rfl, by simpa using ho.reads, hb⟩

theorem norm_any (w : World) (v : Value) (l : List Int) (hd : Dg l) (h : Rd w v l) (hl : l.length ≤ 1000000) : Calls Tryz.prog 97 #[v] w (RetNum (val l) w) := by
  have hl2 : (words (val l)).length ≤ 1000000 := Nat.le_trans (words_len_le (val_lt hd)) hl
  go_enter Tryz.func97, Tryz.ntmps97
  go_wp2_with (first | (go_at_call 101; refine (trim_any _ _ _ hd h).mono ?_; rintro e w1 ⟨v1, rfl, hr, hb⟩) | (go_at_call 134; refine (clone_any _ _ _ hr hl2).mono ?_; rintro e w2 ⟨v2, rfl, hr2, hb2⟩))
  go_ret
  exact ⟨v2, rfl, hr2, hb.trans (hb2.mono hb.size)⟩

theorem fits_any (w : World) (v : Value) (l : List Int) (hd : Dg l) (h : Rd w v l) (hs : (words (val l)).length ≤ 2000) :
    Calls Tryz.prog 131 #[v] w fun e w' => ∃ v', e = .returned (.tuple #[v', .int .i64 0]) ∧ Rd w' v' (words (val l)) ∧ Below w.heap.size w w' := by
  have hf : decide ((2000 : Int) < ((words (val l)).length : Int)) = false := decide_eq_false (by omega)
  go_enter Tryz.func131, Tryz.ntmps131
  go_wp2_with (first | (go_at_call 133; refine (large_any _ _ _ hd h).mono ?_; rintro e w1 ⟨rfl, hb⟩; have h1 := Rd.below h hb) | (go_at_call 101; refine (trim_any _ _ _ hd h1).mono ?_; rintro e w2 ⟨v2, rfl, hr2, hb2⟩))
  exact bodyPost_ret (v := .tuple #[v2, .int .i64 0]) (by simp [results, Tryz.results131, go_sem]) rfl ⟨v2, rfl, hr2, hb.trans (hb2.mono hb.size)⟩

def cmpN (a b : Nat) : Int := if a < b then -1 else if a = b then 0 else 1

set_option maxHeartbeats 400000 in
theorem compare_any (w : World) (v1 v2 : Value) (l1 l2 : List Int) (hd1 : Dg l1) (hd2 : Dg l2) (h1 : Rd w v1 l1) (h2 : Rd w v2 l2) :
    Calls Tryz.prog 103 #[v1, v2] w fun e w' => e = .returned (.int .i64 (cmpN (val l1) (val l2))) ∧ Below w.heap.size w w' := by
  go_enter Tryz.func103, Tryz.ntmps103
  go_wp2_with fail
  refine (trim_any _ _ _ hd1 h1).mono ?_
  intro e w1 hr1
  obtain ⟨n1, A1, c1, rfl, HL1, hc1, hm1, HC1, HB1⟩ := hr1.elim
  have h2' := Rd.below h2 HB1.out
  clear hr1 h1 h2
  go_wp2_with fail
  refine (trim_any _ _ _ hd2 h2').mono ?_
  intro e w2 hr2
  obtain ⟨n2, A2, c2, rfl, HL2, hc2, hm2, HC2, HB2⟩ := hr2.elim
  clear hr2 h2'
  have HB := Aside0.mk (HB1.out.trans (HB2.out.mono HB1.out.size))
  have HC := Aside0.mk (Kd.C_below HC1.out HB2.out)
  have hx := words_len_mono (a := val l1) (b := val l2)
  have hy := words_len_mono (a := val l2) (b := val l1)
  rw [← HL1.out, ← HL2.out] at hx hy
  have HX := Aside0.mk hx
  have HY := Aside0.mk hy
  clear hx hy HC1 HB1 HB2
  rcases Nat.lt_trichotomy n1 n2 with hlt | heq | hgt
  · go_wp2_with fail
    go_ret
    exact ⟨ret_int (by rw [cmpN, if_pos (by rcases Nat.lt_or_ge (val l1) (val l2) with h | h; exact h; have := HY.out h; omega)]), HB.out⟩
  · subst heq
    go_wp2_with fail
    go_loopg [5] n1 (fun k v5 w' => ∃ (j : Nat) (i : Int), v5 = .int .i64 i ∧ i = (j : Int) - 1 ∧ j ≤ k ∧ j ≤ n1 ∧ Aside0 ((words (val l1)).drop j = (words (val l2)).drop j) ∧ Aside0 ((Kd.int .u32).C w' A1 n1 (words (val l1))) ∧ Aside0 ((Kd.int .u32).C w' A2 n1 (words (val l2))) ∧ Aside0 (Below w.heap.size w w'))
    case atStart => exact ⟨n1, _, rfl, rfl, Nat.le_refl _, Nat.le_refl _, ⟨by rw [List.drop_of_length_le (by rw [← HL1.out]; exact Nat.le_refl _), List.drop_of_length_le (by rw [← HL2.out]; exact Nat.le_refl _)]⟩, HC, HC2, HB⟩
    case round =>
      clear HC HC2 HB HX HY
      obtain ⟨j, i, rfl, hi, hk, hn, HD, HC, HC2, HB⟩ := hrel
      cases j with
      | zero =>
        obtain rfl : i = -1 := by omega
        clear hi
        go_wp2_with fail
        go_ret
        have e : val l1 = val l2 := words_inj (by simpa using HD.out)
        exact ⟨ret_int (by rw [cmpN, e, if_neg (Nat.lt_irrefl _), if_pos rfl]), HB.out⟩
      | succ m =>
        obtain rfl : i = (m : Int) := by omega
        obtain ⟨ad1, X, rfl, HXm, hc1⟩ := C_at HC.out m (by omega)
        obtain ⟨ad2, Y, rfl, HYm, hc2⟩ := C_at HC2.out m (by omega)
        have q1 := dg_getD (dg_words (val l1)) m
        have q2 := dg_getD (dg_words (val l2)) m
        have Q := Aside0.mk (And.intro q1 q2)
        clear q1 q2 hi
        rw [HXm.out, HYm.out] at Q
        rcases Int.lt_trichotomy X Y with hlt | heq | hgt
        · have H := Aside0.mk hlt
          have hb1 : decide (X < Y) = true := decide_eq_true hlt
          go_wp2_with fail
          go_quiet (fail)
          go_wp2_with fail
          go_ret
          have hv := val_lt_of (dg_words _) (HL1.out.symm.trans HL2.out) m (by have := HL1.out; omega) HD.out (by have h1 := H.out; have := Q.out; rw [HXm.out, HYm.out]; omega)
          rw [val_words, val_words] at hv
          exact ⟨ret_int (by rw [cmpN, if_pos hv]), (by repeat first | exact HB.out | apply pw_below_drewN)⟩
        · have H := Aside0.mk heq
          have hb1 : decide (X < Y) = false := decide_eq_false (by omega)
          have hb2 : decide (Y < X) = false := decide_eq_false (by omega)
          clear heq
          go_wp2_with fail
          go_quiet (fail)
          go_wp2_with fail
          go_quiet (fail)
          go_wp2_with fail
          go_roundg m
          case measure => omega
          case rel =>
            refine ⟨m, _, rfl, rfl, Nat.le_refl _, by omega, ⟨?_⟩, ⟨Kd.C_drewN HC.out _⟩, ⟨Kd.C_drewN HC2.out _⟩, ⟨by repeat first | exact HB.out | apply pw_below_drewN⟩⟩
            have h1 : (words (val l1)).getD m 0 = (words (val l2)).getD m 0 := by rw [HXm.out, HYm.out]; exact H.out
            rw [drop_getD _ m (by have := HL1.out; omega), drop_getD _ m (by have := HL2.out; omega), h1, HD.out]
        · have H := Aside0.mk hgt
          have hb1 : decide (X < Y) = false := decide_eq_false (by omega)
          have hb2 : decide (Y < X) = true := decide_eq_true hgt
          clear hgt
          go_wp2_with fail
          go_quiet (fail)
          go_wp2_with fail
          go_quiet (fail)
          go_wp2_with fail
          go_ret
          have hv := val_lt_of (dg_words _) (HL2.out.symm.trans HL1.out) m (by have := HL2.out; omega) HD.out.symm (by have h1 := H.out; have := Q.out; rw [HXm.out, HYm.out]; omega)
          rw [val_words, val_words] at hv
          exact ⟨ret_int (by rw [cmpN, if_neg (by omega), if_neg (by omega)]), (by repeat first | exact HB.out | apply pw_below_drewN)⟩
  · go_wp2_with fail
    go_ret
    have hv : val l2 < val l1 := by rcases Nat.lt_or_ge (val l2) (val l1) with h | h; exact h; have := HX.out h; omega
    exact ⟨ret_int (by rw [cmpN, if_neg (by omega), if_neg (by omega)]), HB.out⟩

end Go.Proofs.YthknbknmlnnhcaaGreatDoor
