/- Walks: nat.Divide whole; bobbinref2.trimmed, Norm, large, Of. -/
import Derived.Test.YthknbknmlnnhcaaGreatDoorWi
namespace Go.Proofs.YthknbknmlnnhcaaGreatDoor
open Go.RowKit Go.Proofs.YthknbknmlnnhcaaGreatDoorW.PrintWords Bob
set_option linter.unusedVariables false
set_option linter.unusedSimpArgs false

theorem divide_any (w : World) (v1 v2 : Value) (N1 N2 : Nat) (h1 : Rd w v1 (words N1)) (h2 : Rd w v2 (words N2)) (hk1 : (words N1).length ≤ 2000) (hk2 : (words N2).length ≤ 2000) (hne : N2 ≠ 0) :
    Calls Tryz.prog 86 #[v1, v2] w (RetDiv (N1 / N2) (N1 % N2) w) := by
  rcases Nat.lt_or_ge N1 N2 with h | h
  · have := divide_less w v1 v2 N1 N2 h1 h2 hk1 hk2 hne h
    rwa [Nat.div_eq_of_lt h, Nat.mod_eq_of_lt h]
  · rcases Nat.lt_or_ge 1 (words N2).length with h3 | h3
    · exact divide_long w v1 v2 N1 N2 h1 h2 hk1 hk2 hne h h3
    · exact divide_one w v1 v2 N1 N2 h1 h2 hk1 hk2 hne h (by have := words_len_pos hne; omega)

set_option maxHeartbeats 400000 in
theorem rtrimmed_any (w : World) (v : Value) (l : List Int) (hd : Dg l) (h : Rd w v l) : Calls Tryz.prog 110 #[v] w (RetNum (val l) w) := by
  obtain ⟨n, A, c, rfl, HL, hc, hm, HC⟩ := h.elim
  have HD := Aside0.mk hd
  clear hd h
  go_enter Tryz.func110, Tryz.ntmps110
  go_wp2
  go_loopg [3] n (fun k v3 w' => ∃ j : Nat, v3 = .int .i64 (j : Int) ∧ j ≤ k ∧ j ≤ n ∧ Aside0 (val (l.take j) = val l) ∧ Aside0 (w = w'))
  case atStart => exact ⟨n, rfl, Nat.le_refl _, Nat.le_refl _, ⟨by rw [List.take_of_length_le (by rw [← HL.out]; exact Nat.le_refl _)]⟩, ⟨rfl⟩⟩
  case round =>
    obtain ⟨j, rfl, hk, hn, HV, HW⟩ := hrel
    obtain rfl := HW.out
    clear HW
    cases j with
    | zero =>
      go_wp2
      go_ret
      exact RetNum.mk (x := l.take 0) (by rw [← HV.out]; exact words_zero) (by simp) (Nat.zero_le _) (C_tk HC.out (Nat.zero_le _)) (Below.refl _ _) rfl
    | succ m =>
      obtain ⟨ad, X, rfl, HX, hcell⟩ := C_at HC.out m (by omega)
      by_cases hz : X = 0
      · subst hz
        go_wp2
        go_roundg m
        case measure => omega
        case rel => exact ⟨m, by go_num, Nat.le_refl _, by omega, ⟨by rw [← HV.out, val_take_top (by rw [← HL.out]; exact hn) HX.out]⟩, ⟨rfl⟩⟩
      · have HZ := Aside0.mk hz
        go_wp2
        go_ret
        refine RetNum.mk (x := l.take (m + 1)) ?_ (by rw [List.length_take, ← HL.out]; omega) (by omega) (C_tk HC.out hn) (Below.refl _ _) rfl
        rw [← HV.out]
        refine words_val (dg_take HD.out _) (.inr ?_)
        rw [List.length_take, ← HL.out, Nat.min_eq_left hn, Nat.add_sub_cancel, List.getD_eq_getElem?_getD, List.getElem?_take, if_pos (Nat.lt_succ_self m), ← List.getD_eq_getElem?_getD, HX.out]
        exact HZ.out

/-- The same, and the row is a new one. -/
def RetOwn (N : Nat) (w : World) (e : Ending) (w' : World) : Prop := ∃ v', e = .returned v' ∧ Ow w' w.heap.size v' (words N) ∧ Below w.heap.size w w'
theorem RetOwn.num {N : Nat} {w w' : World} {e : Ending} (h : RetOwn N w e w') : RetNum N w e w' := by
  obtain ⟨v, h1, h2, h3⟩ := h
  exact ⟨v, h1, h2.reads, h3⟩
/-- A row that the call has made is not turned by a word set elsewhere. -/
theorem Ow.setOther {w : World} {base g : Nat} {v : Value} {l : List Int} (h : Ow w base v l) (hg : g < base) (i : Nat) (u : Value) : Rd (w.setCell ⟨g, i, none⟩ u) v l := by
  by_cases hp : 0 < l.length
  · obtain ⟨g', cap, rfl, h1, _⟩ := h.form hp
    exact (Ow.only h (Only.setOther w i u) (by omega)).reads
  · have hl : l = [] := List.length_eq_zero_iff.1 (by omega)
    subst hl
    obtain ⟨A, c, rfl, h1, h2⟩ := h.reads
    exact ⟨A, c, rfl, h1, h2.1, h2.2.1, fun h => absurd h (by simp)⟩

set_option maxHeartbeats 400000 in
theorem rnorm_own (w : World) (v : Value) (l : List Int) (hd : Dg l) (h : Rd w v l) (hl : l.length ≤ 1000000) : Calls Tryz.prog 108 #[v] w (RetOwn (val l) w) := by
  obtain ⟨n, A, c, rfl, HL, hc, hm, HC⟩ := h.elim
  have HD := Aside0.mk hd
  have HLL := Aside0.mk hl
  clear hd h hl
  go_enter Tryz.func108, Tryz.ntmps108
  go_wp2
  go_loopg [3] n (fun k v3 w' => ∃ j : Nat, v3 = .int .i64 (j : Int) ∧ j ≤ k ∧ j ≤ n ∧ Aside0 (val (l.take j) = val l) ∧ Aside0 (w = w'))
  case atStart => exact ⟨n, rfl, Nat.le_refl _, Nat.le_refl _, ⟨by rw [List.take_of_length_le (by rw [← HL.out]; exact Nat.le_refl _)]⟩, ⟨rfl⟩⟩
  case round =>
    obtain ⟨j, rfl, hk, hn, HV, HW⟩ := hrel
    obtain rfl := HW.out
    clear HW
    cases j with
    | zero =>
      go_wp2_with (at_builtin; refine app_u32 (w0 := w) (.tmp 19) (.tmp 22) w.heap.size rfl rfl _ [] (l.take 0) _ _ _ rfl rfl ?c1 ?c2 ?c3 ?c4 ?c5 ?_)
      case c1 => exact Ow.nil _ _
      case c2 => exact C_tk HC.out (Nat.zero_le _)
      case c3 => exact Below.refl _ _
      case c4 => exact Nat.le_refl _
      case c5 => simp
      intro v1 w1 ho hb
      go_wp2
      go_ret
      exact ⟨_, rfl, by rw [← HV.out, show words (val (l.take 0)) = [] ++ l.take 0 from words_zero]; exact ho, hb⟩
    | succ m =>
      obtain ⟨ad, X, rfl, HX, hcell⟩ := C_at HC.out m (by omega)
      by_cases hz : X = 0
      · subst hz
        go_wp2
        go_roundg m
        case measure => omega
        case rel => exact ⟨m, by go_num, Nat.le_refl _, by omega, ⟨by rw [← HV.out, val_take_top (by rw [← HL.out]; exact hn) HX.out]⟩, ⟨rfl⟩⟩
      · have HZ := Aside0.mk hz
        go_wp2_with (at_builtin; refine app_u32 (w0 := w) (.tmp 19) (.tmp 22) w.heap.size rfl rfl _ [] (l.take (m + 1)) _ _ _ rfl rfl ?d1 ?d2 ?d3 ?d4 ?d5 ?_)
        case d1 => exact Ow.nil _ _
        case d2 => exact C_tk HC.out hn
        case d3 => exact Below.refl _ _
        case d4 => exact Nat.le_refl _
        case d5 => have := HLL.out; have := HL.out; simp; omega
        intro v1 w1 ho hb
        go_wp2
        go_ret
        have e : words (val l) = l.take (m + 1) := by
          rw [← HV.out]
          refine words_val (dg_take HD.out _) (.inr ?_)
          rw [List.length_take, ← HL.out, Nat.min_eq_left hn, Nat.add_sub_cancel, List.getD_eq_getElem?_getD, List.getElem?_take, if_pos (Nat.lt_succ_self m), ← List.getD_eq_getElem?_getD, HX.out]
          exact HZ.out
        exact ⟨_, rfl, by rw [e]; simpa using ho, hb⟩

theorem rnorm_any (w : World) (v : Value) (l : List Int) (hd : Dg l) (h : Rd w v l) (hl : l.length ≤ 1000000) : Calls Tryz.prog 108 #[v] w (RetNum (val l) w) :=
  (rnorm_own w v l hd h hl).mono fun _ _ h => h.num
theorem rtrimmed_num (w : World) (v : Value) (N : Nat) (h : Rd w v (words N)) : Calls Tryz.prog 110 #[v] w (RetNum N w) := by
  have := rtrimmed_any w v (words N) (dg_words N) h
  rwa [val_words] at this
theorem rnorm_num (w : World) (v : Value) (N : Nat) (h : Rd w v (words N)) (hl : (words N).length ≤ 1000000) : Calls Tryz.prog 108 #[v] w (RetNum N w) := by
  have := rnorm_any w v (words N) (dg_words N) h hl
  rwa [val_words] at this

theorem rlarge_num (w : World) (v : Value) (N : Nat) (h : Rd w v (words N)) (hs : (words N).length ≤ 2000) : Calls Tryz.prog 109 #[v] w fun e w' => e = .returned (.bool false) ∧ Below w.heap.size w w' := by
  have hf : decide ((2000 : Int) < ((words N).length : Int)) = false := decide_eq_false (by omega)
  go_enter Tryz.func109, Tryz.ntmps109
  go_wp2_with (go_at_call 110; refine (rtrimmed_num _ _ N h).mono ?_; rintro e w1 ⟨v1, rfl, ⟨A, c, rfl, hc, hC⟩, hb⟩)
  go_ret
  exact ⟨rfl, hb⟩

theorem rof_any (w : World) (x : Nat) (hx : x < 18446744073709551616) : Calls Tryz.prog 50 #[.int .u64 (x : Int)] w (RetNum x w) := by
  have hd : Dg [(x : Int) % 4294967296, (x : Int) / 4294967296 % 4294967296] := dg_cons.2 ⟨by omega, dg_cons.2 ⟨by omega, dg_nil⟩⟩
  have hv : val [(x : Int) % 4294967296, (x : Int) / 4294967296 % 4294967296] = x := by simp only [val]; omega
  have HV := Aside0.mk (And.intro hd hv)
  clear hd hv hx
  go_enter Tryz.func50, Tryz.ntmps50
  go_wp2_with (go_at_call 108; refine (rnorm_any _ _ _ HV.out.1 (Ow.lit w w.heap.size _ (Nat.le_refl _) (by simp)).reads (by simp)).mono ?_; rw [HV.out.2]; rintro e w1 ⟨v1, rfl, hr, hb⟩)
  go_ret
  exact ⟨v1, rfl, hr, Below.trans (below_alloc (Below.refl _ _) _) (hb.mono (by simp))⟩

end Go.Proofs.YthknbknmlnnhcaaGreatDoor
