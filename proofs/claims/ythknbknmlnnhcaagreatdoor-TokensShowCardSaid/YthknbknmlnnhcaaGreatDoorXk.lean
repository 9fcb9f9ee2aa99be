/- Plain: how many digits Represent answers; the first one. -/
import Derived.Test.YthknbknmlnnhcaaGreatDoorXj
namespace Go.Proofs.YthknbknmlnnhcaaGreatDoor
open Go.RowKit Go.Proofs.YthknbknmlnnhcaaGreatDoorW.PrintWords Bob
set_option linter.unusedVariables false
set_option linter.unusedSimpArgs false

theorem decDigits_ge {N k : Nat} (h : 10 ^ k ≤ N) : k + 1 ≤ (Lib.decDigits N).length := by
  induction k generalizing N with
  | zero => rw [Lib.decDigits]; split <;> simp
  | succ k ih =>
    have h4 : 10 ≤ 10 ^ (k + 1) := by
      have := Nat.pow_le_pow_right (n := 10) (by decide) (show 1 ≤ k + 1 by omega)
      simpa using this
    rw [Lib.decDigits, dif_neg (by omega), List.length_append]
    have := ih (N := N / 10) (by rw [Nat.pow_succ] at h; omega)
    simp; omega
theorem decDigits_head {N : Nat} (h : N ≠ 0) : (Lib.decDigits N).getD 0 0 ≠ 48 := by
  induction N using Nat.strongRecOn with
  | ind N ih =>
    rw [Lib.decDigits]
    split
    · rename_i h9
      match N, h, h9 with
      | 0, h, _ => exact absurd rfl h
      | 1, _, _ | 2, _, _ | 3, _, _ | 4, _, _ | 5, _, _ | 6, _, _ | 7, _, _ | 8, _, _ | 9, _, _ => decide
      | N + 10, _, h9 => omega
    · have h1 := ih (N / 10) (by omega) (by omega)
      have h2 : 0 < (Lib.decDigits (N / 10)).length := by
        have := decDigits_ge (N := N / 10) (k := 0) (by simp; omega)
        omega
      rw [List.getD_eq_getElem?_getD, List.getElem?_append_left h2, ← List.getD_eq_getElem?_getD]
      exact h1

theorem isX_exists (a : Nat) (hf : fFin a) (h0 : fM a ≠ 0) : ∃ x, IsX a x ∧ -400 < x ∧ x ≤ 400 := by
  have key : ∀ d : Nat, d ≤ 800 → ¬ Ge (fP a) (fQ a) (-400 + d) → ∃ x, IsX a x ∧ -400 < x ∧ x ≤ 400 := by
    intro d
    induction d with
    | zero => intro _ h; exact absurd (ge_m400 a h0) (by simpa using h)
    | succ d ih =>
      intro hd h
      by_cases hg : Ge (fP a) (fQ a) (-400 + d)
      · exact ⟨-400 + ((d + 1 : Nat) : Int), ⟨h, by rw [show -400 + ((d + 1 : Nat) : Int) - 1 = -400 + (d : Int) by omega]; exact hg⟩, by omega, by omega⟩
      · exact ih (by omega) hg
  refine key 800 (Nat.le_refl _) ?_
  exact not_ge_400 a hf
theorem fX_is (a : Nat) (hf : fFin a) (h0 : fM a ≠ 0) : IsX a (fX a) ∧ -400 < fX a ∧ fX a ≤ 400 := by
  obtain ⟨x, hx, h1, h2⟩ := isX_exists a hf h0
  rw [fX_eq hx]
  exact ⟨hx, h1, h2⟩
theorem ge_scale {P Q : Nat} {x : Int} {n : Nat} (hn : 1 ≤ n) (h : Ge P Q (x - 1)) : Q * 10 ^ (x - (n : Int)).toNat * 10 ^ (n - 1) ≤ P * 10 ^ ((n : Int) - x).toNat := by
  unfold Ge at h
  rcases (by omega : (n : Int) ≤ x ∨ (1 ≤ x ∧ x < n) ∨ x < 1) with h1 | ⟨h1, h2⟩ | h1
  · rw [show (x - 1).toNat = (x - (n : Int)).toNat + (n - 1) by omega, show (-(x - 1)).toNat = 0 by omega, Nat.pow_add] at h
    rw [show ((n : Int) - x).toNat = 0 by omega, Nat.mul_assoc]
    exact h
  · rw [show (-(x - 1)).toNat = 0 by omega, Nat.pow_zero, Nat.mul_one] at h
    rw [show (x - (n : Int)).toNat = 0 by omega, Nat.pow_zero, Nat.mul_one, show n - 1 = (x - 1).toNat + ((n : Int) - x).toNat by omega, Nat.pow_add, ← Nat.mul_assoc]
    exact Nat.mul_le_mul_right _ h
  · rw [show (x - 1).toNat = 0 by omega, Nat.pow_zero, Nat.mul_one] at h
    rw [show (x - (n : Int)).toNat = 0 by omega, Nat.pow_zero, Nat.mul_one, show ((n : Int) - x).toNat = (-(x - 1)).toNat + (n - 1) by omega, Nat.pow_add, ← Nat.mul_assoc]
    exact Nat.mul_le_mul_right _ h
theorem lt_scale {P Q : Nat} {x : Int} {n : Nat} (h : ¬ Ge P Q x) : P * 10 ^ ((n : Int) - x).toNat < Q * 10 ^ (x - (n : Int)).toNat * 10 ^ n := by
  unfold Ge at h
  have h := Nat.lt_of_not_le h
  rcases (by omega : (n : Int) ≤ x ∨ (0 ≤ x ∧ x < n) ∨ x < 0) with h1 | ⟨h1, h2⟩ | h1
  · rw [show x.toNat = (x - (n : Int)).toNat + n by omega, show (-x).toNat = 0 by omega, Nat.pow_add] at h
    rw [show ((n : Int) - x).toNat = 0 by omega, Nat.mul_assoc]
    exact h
  · rw [show (-x).toNat = 0 by omega, Nat.pow_zero, Nat.mul_one] at h
    rw [show (x - (n : Int)).toNat = 0 by omega, Nat.pow_zero, Nat.mul_one, show 10 ^ n = 10 ^ x.toNat * 10 ^ ((n : Int) - x).toNat by rw [← Nat.pow_add]; congr 1; omega, ← Nat.mul_assoc]
    exact Nat.mul_lt_mul_of_pos_right h (Nat.pow_pos (by decide))
  · rw [show x.toNat = 0 by omega, Nat.pow_zero, Nat.mul_one] at h
    rw [show (x - (n : Int)).toNat = 0 by omega, Nat.pow_zero, Nat.mul_one, show ((n : Int) - x).toNat = (-x).toNat + n by omega, Nat.pow_add, ← Nat.mul_assoc]
    exact Nat.mul_lt_mul_of_pos_right h (Nat.pow_pos (by decide))
theorem fR_bounds (a n : Nat) (hf : fFin a) (h0 : fM a ≠ 0) (hn : 1 ≤ n) : 10 ^ (n - 1) ≤ fR a n ∧ fR a n ≤ 10 ^ n := by
  obtain ⟨⟨h1, h2⟩, _⟩ := fX_is a hf h0
  have h3 := ge_scale (P := fP a) (Q := fQ a) (x := fX a) hn h2
  have h4 := lt_scale (P := fP a) (Q := fQ a) (x := fX a) (n := n) h1
  have hB : 0 < fQ a * 10 ^ (fX a - (n : Int)).toNat := Nat.mul_pos (Nat.pos_of_ne_zero (fQ_pos a)) (Nat.pow_pos (by decide))
  unfold fR
  generalize fP a * 10 ^ ((n : Int) - fX a).toNat = A at *
  generalize fQ a * 10 ^ (fX a - (n : Int)).toNat = B at *
  have h5 : 10 ^ (n - 1) ≤ A / B := (Nat.le_div_iff_mul_le hB).2 (by rw [Nat.mul_comm]; exact h3)
  have h6 : A / B < 10 ^ n := (Nat.div_lt_iff_lt_mul hB).2 (by rw [Nat.mul_comm]; exact h4)
  have h7 := rne_le A B
  have h8 : A / B ≤ rne A B := by unfold rne; split <;> omega
  omega
/-- Just n digits. -/
theorem repT_length (a n : Nat) (hf : fFin a) (h1 : 1 ≤ n) (h2 : n ≤ 40) : (repT a n).length = n := by
  have hc : ¬ ((n : Int) < 1 ∨ 40 < (n : Int) ∨ ¬ fFin a) := by
    rintro (h | h | h)
    · omega
    · omega
    · exact h hf
  unfold repT
  rw [if_neg hc]
  by_cases h0 : fM a = 0
  · rw [if_pos h0, List.length_replicate, Int.toNat_natCast]
  · rw [if_neg h0, Int.toNat_natCast]
    obtain ⟨h3, h4⟩ := fR_bounds a n hf h0 h1
    have h5 := decDigits_ge h3
    split
    · rw [List.length_take]; omega
    · omega
/-- The first digit is a nought just where the number is 0. -/
theorem repT_head (a n : Nat) (hf : fFin a) (h1 : 1 ≤ n) (h2 : n ≤ 40) : ((repT a n).getD 0 0 = 48) ↔ fM a = 0 := by
  have hc : ¬ ((n : Int) < 1 ∨ 40 < (n : Int) ∨ ¬ fFin a) := by
    rintro (h | h | h)
    · omega
    · omega
    · exact h hf
  have hne : fM a ≠ 0 → (repT a n).getD 0 0 ≠ 48 := by
    intro h0
    unfold repT
    rw [if_neg hc, if_neg h0, Int.toNat_natCast]
    obtain ⟨h3, h4⟩ := fR_bounds a n hf h0 h1
    have h6 : fR a n ≠ 0 := by
      have : 0 < 10 ^ (n - 1) := Nat.pow_pos (by decide)
      omega
    have h7 := decDigits_head h6
    split
    · rw [List.getD_eq_getElem?_getD, List.getElem?_take, if_pos (by omega), ← List.getD_eq_getElem?_getD]
      exact h7
    · exact h7
  constructor
  · intro h
    rcases Nat.eq_zero_or_pos (fM a) with h0 | h0
    · exact h0
    · exact absurd h (hne (by omega))
  · intro h0
    unfold repT
    rw [if_neg hc, if_pos h0, Int.toNat_natCast]
    obtain ⟨m, rfl⟩ : ∃ m, n = m + 1 := ⟨n - 1, by omega⟩
    rw [List.replicate_succ]
    rfl
theorem repX_bound (a n : Nat) : -401 ≤ repX a n ∧ repX a n ≤ 401 := by
  unfold repX
  split
  · omega
  · rename_i hc
    split
    · omega
    · rename_i h0
      have hf : fFin a := by
        rcases Decidable.em (fFin a) with h | h
        · exact h
        · exact absurd (.inr (.inr h)) hc
      obtain ⟨_, h1, h2⟩ := fX_is a hf h0
      split <;> omega

end Go.Proofs.YthknbknmlnnhcaaGreatDoor
