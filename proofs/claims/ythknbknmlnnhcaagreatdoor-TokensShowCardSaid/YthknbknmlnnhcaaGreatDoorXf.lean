/- Plain: the decimal exponent of a float; what Represent answers. -/
import Derived.Test.YthknbknmlnnhcaaGreatDoorXe
namespace Go.Proofs.YthknbknmlnnhcaaGreatDoor
open Go.RowKit Go.Proofs.YthknbknmlnnhcaaGreatDoorW.PrintWords Bob
set_option linter.unusedVariables false
set_option linter.unusedSimpArgs false

/-- P by Q is 10 to the k, or more. -/
def Ge (P Q : Nat) (k : Int) : Prop := Q * 10 ^ k.toNat ≤ P * 10 ^ (-k).toNat
theorem ge_step {P Q : Nat} {k : Int} (h : Ge P Q (k + 1)) : Ge P Q k := by
  unfold Ge at *
  by_cases hk : 0 ≤ k
  · rw [show (k + 1).toNat = k.toNat + 1 by omega, show (-(k + 1)).toNat = 0 by omega, Nat.pow_succ] at h
    rw [show (-k).toNat = 0 by omega]
    refine Nat.le_trans (Nat.mul_le_mul_left _ ?_) h
    omega
  · rw [show (k + 1).toNat = 0 by omega] at h
    rw [show k.toNat = 0 by omega, show (-k).toNat = (-(k + 1)).toNat + 1 by omega, Nat.pow_succ]
    refine Nat.le_trans h (Nat.mul_le_mul_left _ ?_)
    omega
theorem ge_down {P Q : Nat} {k : Int} (d : Nat) (h : Ge P Q (k + d)) : Ge P Q k := by
  induction d with
  | zero => simpa using h
  | succ d ih => exact ih (ge_step (by rw [show k + (d : Int) + 1 = k + ((d + 1 : Nat) : Int) by omega]; exact h))
theorem ge_anti {P Q : Nat} {j k : Int} (hjk : j ≤ k) (h : Ge P Q k) : Ge P Q j := by
  refine ge_down (k - j).toNat ?_
  rw [show j + ((k - j).toNat : Int) = k by omega]
  exact h
theorem pow_two_ten (m k : Nat) (h : m ≤ 3 * k) : 2 ^ m ≤ 10 ^ k := by
  refine Nat.le_trans (Nat.pow_le_pow_right (by decide) h) ?_
  rw [Nat.pow_mul]
  exact Nat.pow_le_pow_left (by decide) k
/-- The two numbers of a float: above and below the bar. -/
def fP (a : Nat) : Nat := fM a * 2 ^ (fE a).toNat
def fQ (a : Nat) : Nat := 2 ^ (-(fE a)).toNat
theorem fE_ge (a : Nat) : -1074 ≤ fE a := by unfold fE; split <;> omega
theorem fE_le (a : Nat) (h : fFin a) : fE a ≤ 971 := by unfold fFin at h; unfold fE fx; split <;> omega
theorem fQ_pos (a : Nat) : fQ a ≠ 0 := Nat.ne_of_gt (Nat.pow_pos (by decide))
theorem not_ge_K (a K : Nat) (hK : K = 400) (h : fFin a) : ¬ Ge (fP a) (fQ a) K := by
  unfold Ge fP fQ
  intro hg
  have h1 := fM_lt a
  have h2 := fE_le a h
  obtain ⟨L, hL⟩ : ∃ L, L = K - 76 := ⟨_, rfl⟩
  have h3 : 2 ^ (fE a).toNat ≤ 10 ^ L := pow_two_ten _ _ (by omega)
  have h5 : 1 ≤ 2 ^ (-(fE a)).toNat := Nat.pow_pos (by decide)
  have h6 : fM a * 2 ^ (fE a).toNat ≤ 9007199254740992 * 10 ^ L := Nat.mul_le_mul (by omega) (by omega)
  rw [show ((K : Int).toNat) = 76 + L by omega, show ((-(K : Int)).toNat) = 0 by omega, Nat.pow_zero, Nat.mul_one, Nat.pow_add] at hg
  have h7 : 1 * (10 ^ 76 * 10 ^ L) ≤ 2 ^ (-(fE a)).toNat * (10 ^ 76 * 10 ^ L) := Nat.mul_le_mul_right _ h5
  have h8 : 10 ^ 76 * 10 ^ L ≤ 9007199254740992 * 10 ^ L := by rw [Nat.one_mul] at h7; exact Nat.le_trans h7 (Nat.le_trans hg h6)
  have h9 : (10 : Nat) ^ 76 ≤ 9007199254740992 := Nat.le_of_mul_le_mul_right h8 (Nat.pow_pos (by decide))
  exact absurd h9 (by decide)
theorem not_ge_400 (a : Nat) (h : fFin a) : ¬ Ge (fP a) (fQ a) 400 := not_ge_K a 400 rfl h
theorem ge_mK (a K : Nat) (hK : K = 400) (h0 : fM a ≠ 0) : Ge (fP a) (fQ a) (-(K : Int)) := by
  unfold Ge fP fQ
  have h1 := fE_ge a
  have h2 : 2 ^ (-(fE a)).toNat ≤ 10 ^ K := pow_two_ten _ _ (by omega)
  have h3 : 1 ≤ fM a * 2 ^ (fE a).toNat := Nat.pos_of_ne_zero (Nat.mul_ne_zero h0 (Nat.ne_of_gt (Nat.pow_pos (by decide))))
  rw [show ((-(K : Int)).toNat) = 0 by omega, show ((- -(K : Int)).toNat) = K by omega, Nat.pow_zero, Nat.mul_one]
  exact Nat.le_trans h2 (Nat.le_mul_of_pos_left _ h3)
theorem ge_m400 (a : Nat) (h0 : fM a ≠ 0) : Ge (fP a) (fQ a) (-400) := ge_mK a 400 rfl h0
instance (a : Nat) : Decidable (fFin a) := by unfold fFin; exact inferInstance

/-- x is the exponent: 10 to the x - 1 is reached, 10 to the x is not. -/
def IsX (a : Nat) (x : Int) : Prop := ¬ Ge (fP a) (fQ a) x ∧ Ge (fP a) (fQ a) (x - 1)
noncomputable def fX (a : Nat) : Int := Classical.epsilon (IsX a)
theorem isX_unique {a : Nat} {x y : Int} (hx : IsX a x) (hy : IsX a y) : x = y := by
  rcases Int.lt_trichotomy x y with h | h | h
  · exact absurd (ge_anti (by omega) hy.2) hx.1
  · exact h
  · exact absurd (ge_anti (by omega) hx.2) hy.1
theorem fX_eq {a : Nat} {x : Int} (h : IsX a x) : fX a = x := isX_unique (Classical.epsilon_spec (p := IsX a) ⟨x, h⟩) h
/-- The number of which n digits are shown. -/
noncomputable def fR (a : Nat) (n : Nat) : Nat := rne (fP a * 10 ^ ((n : Int) - fX a).toNat) (fQ a * 10 ^ (fX a - (n : Int)).toNat)
/-- What Represent answers: digits, exponent, sign, error. -/
noncomputable def repT (a : Nat) (n : Int) : List UInt8 :=
  if n < 1 ∨ 40 < n ∨ ¬ fFin a then [] else if fM a = 0 then List.replicate n.toNat 48 else
    if n.toNat < (Lib.decDigits (fR a n.toNat)).length then (Lib.decDigits (fR a n.toNat)).take n.toNat else Lib.decDigits (fR a n.toNat)
noncomputable def repX (a : Nat) (n : Int) : Int :=
  if n < 1 ∨ 40 < n ∨ ¬ fFin a then 0 else if fM a = 0 then 0 else
    if n.toNat < (Lib.decDigits (fR a n.toNat)).length then fX a + 1 else fX a
noncomputable def repN (a : Nat) (n : Int) : Bool := if n < 1 ∨ 40 < n ∨ ¬ fFin a then false else fNeg a
noncomputable def repE (a : Nat) (n : Int) : Int := if n < 1 ∨ 40 < n ∨ ¬ fFin a then 1 else 0
def RetRep (a : Nat) (n : Int) (w : World) (e : Ending) (w' : World) : Prop :=
  e = .returned (.tuple #[.agg #[.string (S (repT a n)), .int .i64 (repX a n), .bool (repN a n)], .int .i64 (repE a n)]) ∧ Below w.heap.size w w'

end Go.Proofs.YthknbknmlnnhcaaGreatDoor
