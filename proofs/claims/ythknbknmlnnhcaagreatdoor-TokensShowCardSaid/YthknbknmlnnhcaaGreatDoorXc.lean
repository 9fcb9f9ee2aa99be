/- Walks: nat's Norm and trim over a row of the call's own. -/
import Derived.Test.YthknbknmlnnhcaaGreatDoorXb
namespace Go.Proofs.YthknbknmlnnhcaaGreatDoor
open Go.RowKit Go.Proofs.YthknbknmlnnhcaaGreatDoorW.PrintWords Bob
set_option linter.unusedVariables false
set_option linter.unusedSimpArgs false

theorem clone_own (w : World) (v : Value) (N : Nat) (h : Rd w v (words N)) (hl : (words N).length ≤ 1000000) : Calls Tryz.prog 134 #[v] w (RetOwn N w) := by
  obtain ⟨A, c, rfl, hc, hC⟩ := h
  have hq := fun (w : World) (n c : Nat) => Lib.run_eql_slice_nil (P := Tryz.prog) w 66 108 A n c 0 0 Tryz.underlying66
  cases A with
  | none =>
    have e := rd_nil_of (c := c) rfl hC
    have HE := Aside0.mk e
    go_enter Tryz.func134, Tryz.ntmps134
    go_wp2
    go_ret
    exact ⟨_, rfl, by rw [HE.out]; exact Ow.nil _ _, Below.refl _ _⟩
  | some ad =>
    have HC := Aside0.mk hC
    have HL := Aside0.mk hl
    clear hC hl
    go_enter Tryz.func134, Tryz.ntmps134
    go_wp2_with (at_builtin; refine app_u32 (w0 := w) (.tmp 5) (.tmp 6) w.heap.size rfl rfl _ [] (words N) _ _ _ rfl rfl ?c1 ?c2 ?c3 ?c4 ?c5 ?_)
    case c1 => exact Ow.lit w w.heap.size [] (Nat.le_refl _) (by simp)
    case c2 => exact Kd.C_alloc HC.out _
    case c3 => exact (Below.refl _ _).alloc (Nat.le_refl _) _
    case c4 => simp
    case c5 => have := HL.out; simp; omega
    intro v1 w1 ho hb
    go_wp2
    go_ret
    exact ⟨_, rfl, by simpa using ho, hb⟩

theorem norm_own (w : World) (v : Value) (l : List Int) (hd : Dg l) (h : Rd w v l) (hl : l.length ≤ 1000000) : Calls Tryz.prog 97 #[v] w (RetOwn (val l) w) := by
  have hl2 : (words (val l)).length ≤ 1000000 := Nat.le_trans (words_len_le (val_lt hd)) hl
  go_enter Tryz.func97, Tryz.ntmps97
  go_wp2_with (first | (go_at_call 101; refine (trim_any _ _ _ hd h).mono ?_; rintro e w1 ⟨v1, rfl, hr, hb⟩) | (go_at_call 134; refine (clone_own _ _ _ hr hl2).mono ?_; rintro e w2 ⟨v2, rfl, hr2, hb2⟩))
  go_ret
  exact ⟨v2, rfl, hr2.lower hb.size, hb.trans (hb2.mono hb.size)⟩

set_option maxHeartbeats 400000 in
theorem trim_eq (w : World) (A : Option Addr) (c n : Nat) (l : List Int) (hd : Dg l) (h : Rd w (.slice A n c) l) : Calls Tryz.prog 101 #[.slice A n c] w fun e w' => w' = w ∧ ∃ M, M ≤ n ∧ M = (words (val l)).length ∧ words (val l) = l.take M ∧ e = .returned (.slice A M c) := by
  obtain ⟨n', A', c', he, HL, hc, hm, HC⟩ := h.elim
  injection he with e1 e2 e3
  subst e1 e2 e3
  have HD := Aside0.mk hd
  clear hd h
  go_enter Tryz.func101, Tryz.ntmps101
  go_wp2
  go_loopg [0] n (fun k v0 w' => ∃ j : Nat, v0 = .slice A j c ∧ j ≤ k ∧ j ≤ n ∧ j ≤ 9223372036854775807 ∧ Aside0 (val (l.take j) = val l) ∧ Aside0 (w = w'))
  case atStart => exact ⟨n, rfl, Nat.le_refl _, Nat.le_refl _, hm, ⟨by rw [List.take_of_length_le (by rw [← HL.out]; exact Nat.le_refl _)]⟩, ⟨rfl⟩⟩
  case round =>
    obtain ⟨j, rfl, hk, hn, hj, HV, HW⟩ := hrel
    obtain rfl := HW.out
    clear HW
    cases j with
    | zero =>
      go_wp2
      go_ret
      have e : words (val l) = l.take 0 := by rw [← HV.out]; exact words_zero
      exact ⟨rfl, 0, Nat.zero_le _, by rw [e]; rfl, e, rfl⟩
    | succ m =>
      obtain ⟨ad, X, rfl, HX, hcell⟩ := C_at HC.out m (by omega)
      by_cases hz : X = 0
      · subst hz
        go_wp2
        go_roundg m
        case measure => omega
        case rel => exact ⟨m, rfl, Nat.le_refl _, by omega, by omega, ⟨by rw [← HV.out, val_take_top (by rw [← HL.out]; exact hn) HX.out]⟩, ⟨rfl⟩⟩
      · have HZ := Aside0.mk hz
        go_wp2
        go_ret
        have e : words (val l) = l.take (m + 1) := by
          rw [← HV.out]
          refine words_val (dg_take HD.out _) (.inr ?_)
          rw [List.length_take, ← HL.out, Nat.min_eq_left hn, Nat.add_sub_cancel, List.getD_eq_getElem?_getD, List.getElem?_take, if_pos (Nat.lt_succ_self m), ← List.getD_eq_getElem?_getD, HX.out]
          exact HZ.out
        exact ⟨rfl, m + 1, hn, by rw [e, List.length_take, ← HL.out]; omega, e, rfl⟩

end Go.Proofs.YthknbknmlnnhcaaGreatDoor
