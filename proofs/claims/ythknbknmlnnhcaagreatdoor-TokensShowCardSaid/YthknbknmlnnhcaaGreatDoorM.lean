/- Plain laws on numbers, digits and bits: what the walks compute. -/
import Derived.Laws.BitsAllLaws
import Derived.Laws.Bits64
import Derived.Lib.ItoaNum
import Derived.Laws.BytesArg
import Derived.Laws.Slices
import Derived.Laws.Strings
section
/- Plain numbers: lists of 32-bit words, the lowest first, and the numbers that they mean. No program in sight. -/
namespace Bob

/-- What a row of words means. -/
def val : List Int → Nat
  | [] => 0
  | d :: ds => d.toNat + 4294967296 * val ds

/-- Each is a word. -/
def Dg (l : List Int) : Prop := ∀ d ∈ l, 0 ≤ d ∧ d < 4294967296

/-- The words of a number: none of 0; the uppermost is not 0. -/
def words (n : Nat) : List Int :=
  if h : n = 0 then [] else ((n % 4294967296 : Nat) : Int) :: words (n / 4294967296)
termination_by n
decreasing_by omega

theorem words_zero : words 0 = [] := by rw [words]; simp
theorem words_pos {n : Nat} (h : n ≠ 0) : words n = ((n % 4294967296 : Nat) : Int) :: words (n / 4294967296) := by
  rw [words, dif_neg h]

theorem val_words (n : Nat) : val (words n) = n := by
  induction n using Nat.strongRecOn with
  | _ n ih =>
    by_cases h : n = 0
    · subst h; rw [words_zero]; rfl
    · rw [words_pos h, val, ih _ (by omega)]; omega

theorem dg_nil : Dg [] := fun _ h => by cases h
theorem dg_cons {d : Int} {l : List Int} : Dg (d :: l) ↔ (0 ≤ d ∧ d < 4294967296) ∧ Dg l := by
  unfold Dg; simp
theorem dg_append {a b : List Int} : Dg (a ++ b) ↔ Dg a ∧ Dg b := by
  unfold Dg
  constructor
  · intro h; exact ⟨fun d hd => h d (List.mem_append.2 (.inl hd)), fun d hd => h d (List.mem_append.2 (.inr hd))⟩
  · rintro ⟨h1, h2⟩ d hd
    rcases List.mem_append.1 hd with h | h
    · exact h1 d h
    · exact h2 d h
theorem dg_take {l : List Int} (h : Dg l) (k : Nat) : Dg (l.take k) := fun d hd => h d (List.mem_of_mem_take hd)
theorem dg_drop {l : List Int} (h : Dg l) (k : Nat) : Dg (l.drop k) := fun d hd => h d (List.mem_of_mem_drop hd)
theorem dg_set {l : List Int} (h : Dg l) (i : Nat) (x : Int) (hx : 0 ≤ x ∧ x < 4294967296) : Dg (l.set i x) := fun d hd => by
  rcases List.mem_or_eq_of_mem_set hd with h1 | h1
  · exact h d h1
  · subst h1; exact hx
theorem dg_replicate (n : Nat) : Dg (List.replicate n 0) := fun d hd => by
  rw [List.mem_replicate] at hd; rw [hd.2]; decide
theorem dg_getD {l : List Int} (h : Dg l) (i : Nat) : 0 ≤ l.getD i 0 ∧ l.getD i 0 < 4294967296 := by
  rw [List.getD_eq_getElem?_getD]
  by_cases hi : i < l.length
  · rw [List.getElem?_eq_getElem hi]; exact h _ (List.getElem_mem hi)
  · rw [List.getElem?_eq_none (by omega)]; decide

theorem dg_words (n : Nat) : Dg (words n) := by
  induction n using Nat.strongRecOn with
  | _ n ih =>
    by_cases h : n = 0
    · subst h; rw [words_zero]; exact dg_nil
    · rw [words_pos h, dg_cons]; exact ⟨by omega, ih _ (by omega)⟩

theorem val_append (a b : List Int) : val (a ++ b) = val a + 4294967296 ^ a.length * val b := by
  induction a with
  | nil => simp [val]
  | cons d a ih => simp only [List.cons_append, val, List.length_cons, ih, Nat.pow_succ]; grind

theorem val_replicate (n : Nat) : val (List.replicate n 0) = 0 := by
  induction n with
  | zero => rfl
  | succ n ih => rw [List.replicate_succ, val, ih]; rfl

theorem val_lt {l : List Int} (h : Dg l) : val l < 4294967296 ^ l.length := by
  induction l with
  | nil => simp [val]
  | cons d l ih =>
    rw [dg_cons] at h
    have := ih h.2
    rw [val, List.length_cons, Nat.pow_succ]
    omega

theorem val_take_drop (l : List Int) (k : Nat) (hk : k ≤ l.length) : val l = val (l.take k) + 4294967296 ^ k * val (l.drop k) := by
  have h := val_append (l.take k) (l.drop k)
  rw [List.take_append_drop, List.length_take, Nat.min_eq_left hk] at h
  exact h

theorem drop_getD (l : List Int) (i : Nat) (h : i < l.length) : l.drop i = l.getD i 0 :: l.drop (i + 1) := by
  rw [List.drop_eq_getElem_cons h, List.getD_eq_getElem?_getD, List.getElem?_eq_getElem h]; rfl
theorem take_getD (l : List Int) (i : Nat) (h : i < l.length) : l.take (i + 1) = l.take i ++ [l.getD i 0] := by
  rw [List.take_succ_eq_append_getElem h, List.getD_eq_getElem?_getD, List.getElem?_eq_getElem h]; rfl

theorem val_drop (l : List Int) (i : Nat) (h : i < l.length) : val (l.drop i) = (l.getD i 0).toNat + 4294967296 * val (l.drop (i + 1)) := by
  rw [drop_getD l i h, val]
theorem val_take (l : List Int) (i : Nat) (h : i < l.length) : val (l.take (i + 1)) = val (l.take i) + 4294967296 ^ i * (l.getD i 0).toNat := by
  rw [take_getD l i h, val_append, List.length_take, Nat.min_eq_left (by omega)]
  simp [val]

/-- A word set. -/
theorem val_set (l : List Int) (i : Nat) (x : Int) (h : i < l.length) : val (l.set i x) + 4294967296 ^ i * (l.getD i 0).toNat = val l + 4294967296 ^ i * x.toNat := by
  induction l generalizing i with
  | nil => simp at h
  | cons d l ih =>
    cases i with
    | zero => simp [val]; omega
    | succ i =>
      have := ih i (by simpa using h)
      simp only [List.set_cons_succ, val, List.getD_cons_succ, Nat.pow_succ]
      grind

theorem getD_set (l : List Int) (i j : Nat) (x : Int) (h : i < l.length) : (l.set i x).getD j 0 = if j = i then x else l.getD j 0 := by
  rw [List.getD_eq_getElem?_getD, List.getD_eq_getElem?_getD]
  by_cases hj : j = i
  · subst hj; rw [if_pos rfl, List.getElem?_set_self h]; rfl
  · rw [if_neg hj, List.getElem?_set_ne (Ne.symm hj)]

theorem take_set_le (l : List Int) (i k : Nat) (x : Int) (h : k ≤ i) : (l.set i x).take k = l.take k := by
  rw [List.take_set]
  rw [List.set_eq_of_length_le]
  rw [List.length_take]; omega
theorem drop_set_lt (l : List Int) (i k : Nat) (x : Int) (h : i < k) : (l.set i x).drop k = l.drop k := by
  rw [List.drop_set, if_pos h]

theorem val_zero_of {l : List Int} (hd : Dg l) (h : val l = 0) : l = List.replicate l.length 0 := by
  induction l with
  | nil => rfl
  | cons d l ih =>
    rw [dg_cons] at hd
    rw [val] at h
    have h1 : d = 0 := by omega
    have h2 := ih hd.2 (by omega)
    rw [h1, List.length_cons, List.replicate_succ, ← h2]

/-- A row whose uppermost word is not 0 is the words of its number. -/
theorem words_val {l : List Int} (hd : Dg l) (h : l = [] ∨ l.getD (l.length - 1) 0 ≠ 0) : words (val l) = l := by
  induction l with
  | nil => exact words_zero
  | cons d l ih =>
    rw [dg_cons] at hd
    have hne : val (d :: l) ≠ 0 := by
      intro hz
      have h2 := val_zero_of (dg_cons.2 hd) hz
      rcases h with h | h
      · cases h
      · apply h
        rw [h2]
        rw [List.getD_eq_getElem?_getD]
        rw [List.getElem?_replicate]
        split <;> rfl
    rw [words_pos hne]
    have h1 : val (d :: l) % 4294967296 = d.toNat := by rw [val]; omega
    have h2 : val (d :: l) / 4294967296 = val l := by rw [val]; omega
    rw [h1, h2, ih hd.2 ?_]
    · rw [Int.toNat_of_nonneg hd.1.1]
    · cases l with
      | nil => exact .inl rfl
      | cons e l =>
        right
        rcases h with h | h
        · cases h
        · simpa using h

theorem words_top {n : Nat} (h : n ≠ 0) : (words n).getD ((words n).length - 1) 0 ≠ 0 := by
  induction n using Nat.strongRecOn with
  | _ n ih =>
    by_cases hs : n < 4294967296
    · have e : words n = [((n % 4294967296 : Nat) : Int)] := by rw [words_pos h, show n / 4294967296 = 0 by omega, words_zero]
      rw [e]; simp; omega
    · have e := words_pos h
      have h2 : n / 4294967296 ≠ 0 := by omega
      have h3 := ih (n / 4294967296) (by omega) h2
      have h4 : 0 < (words (n / 4294967296)).length := by
        rw [words_pos h2]; simp
      rw [e]
      rw [List.length_cons]
      rw [show (words (n / 4294967296)).length + 1 - 1 = ((words (n / 4294967296)).length - 1) + 1 by omega]
      rw [List.getD_cons_succ]
      exact h3

theorem words_inj {a b : Nat} (h : words a = words b) : a = b := by
  have := congrArg val h
  rwa [val_words, val_words] at this

theorem words_ne {n : Nat} (h : n ≠ 0) : words n ≠ [] := by rw [words_pos h]; simp
theorem words_len_pos {n : Nat} (h : n ≠ 0) : 0 < (words n).length := by rw [words_pos h]; simp
theorem words_len_zero {n : Nat} : (words n).length = 0 ↔ n = 0 := by
  constructor
  · intro h
    by_cases hn : n = 0
    · exact hn
    · have := words_len_pos hn; omega
  · intro h; subst h; rw [words_zero]; rfl

/-- How long. -/
theorem words_lt (n : Nat) : n < 4294967296 ^ (words n).length := by
  have := val_lt (dg_words n)
  rwa [val_words] at this
theorem words_ge {n : Nat} (h : n ≠ 0) : 4294967296 ^ ((words n).length - 1) ≤ n := by
  have hl := words_len_pos h
  have h1 := val_take_drop (words n) ((words n).length - 1) (by omega)
  rw [val_words, val_drop _ _ (by omega)] at h1
  have h2 := words_top h
  have h3 := dg_getD (dg_words n) ((words n).length - 1)
  have h4 : 1 ≤ ((words n).getD ((words n).length - 1) 0).toNat := by omega
  rw [Nat.mul_add] at h1
  have h5 : 4294967296 ^ ((words n).length - 1) * 1 ≤ 4294967296 ^ ((words n).length - 1) * ((words n).getD ((words n).length - 1) 0).toNat := Nat.mul_le_mul_left _ h4
  generalize 4294967296 ^ ((words n).length - 1) = p at *
  generalize p * ((words n).getD ((words n).length - 1) 0).toNat = q at *
  generalize p * (4294967296 * val (List.drop ((words n).length - 1 + 1) (words n))) = r at *
  omega
theorem words_len_le {n k : Nat} (h : n < 4294967296 ^ k) : (words n).length ≤ k := by
  by_cases hn : n = 0
  · subst hn; rw [words_zero]; simp
  · have h1 := words_ge hn
    rcases Nat.lt_or_ge k (words n).length with h2 | h2
    · have h3 : 4294967296 ^ k ≤ 4294967296 ^ ((words n).length - 1) := Nat.pow_le_pow_right (by decide) (by omega)
      omega
    · exact h2
theorem words_len_lt {n k : Nat} (h : 4294967296 ^ k ≤ n) : k < (words n).length := by
  have h1 := words_lt n
  rcases Nat.lt_or_ge k (words n).length with h2 | h2
  · exact h2
  · have h3 : 4294967296 ^ (words n).length ≤ 4294967296 ^ k := Nat.pow_le_pow_right (by decide) h2
    omega
theorem words_len_mono {a b : Nat} (h : a ≤ b) : (words a).length ≤ (words b).length :=
  words_len_le (Nat.lt_of_le_of_lt h (words_lt b))

/-- Leaving a word 0 at the end out turns nothing. -/
theorem val_take_top {l : List Int} {m : Nat} (hm : m + 1 ≤ l.length) (h : l.getD m 0 = 0) : val (l.take (m + 1)) = val (l.take m) := by
  rw [val_take l m (by omega), h]; simp

/-- The first word that parts two rows of one length, from above. -/
theorem val_lt_of {a b : List Int} (ha : Dg a) (hl : a.length = b.length) (i : Nat) (hi : i < a.length) (hd : a.drop (i + 1) = b.drop (i + 1)) (hlt : (a.getD i 0).toNat < (b.getD i 0).toNat) : val a < val b := by
  rw [val_take_drop a i (by omega), val_take_drop b i (by omega), val_drop a i hi, val_drop b i (by omega), hd]
  have h1 := val_lt (dg_take ha i)
  rw [List.length_take, Nat.min_eq_left (by omega)] at h1
  have h2 : 4294967296 ^ i * ((a.getD i 0).toNat + 1) ≤ 4294967296 ^ i * (b.getD i 0).toNat := Nat.mul_le_mul_left _ hlt
  rw [Nat.mul_add, Nat.mul_add]
  rw [Nat.mul_add] at h2
  omega

end Bob
end

section
/- Plain numbers: one step of the sums and products over rows of words. No program in sight. -/
namespace Bob

theorem getD_ge {l : List Int} {i : Nat} (h : l.length ≤ i) : l.getD i 0 = 0 := by
  rw [List.getD_eq_getElem?_getD, List.getElem?_eq_none h]; rfl
theorem val_take' (l : List Int) (i : Nat) : val (l.take (i + 1)) = val (l.take i) + 4294967296 ^ i * (l.getD i 0).toNat := by
  rcases Nat.lt_or_ge i l.length with h | h
  · exact val_take l i h
  · rw [getD_ge h, List.take_of_length_le h, List.take_of_length_le (by omega)]; simp
theorem val_drop' (l : List Int) (i : Nat) : val (l.drop i) = (l.getD i 0).toNat + 4294967296 * val (l.drop (i + 1)) := by
  rcases Nat.lt_or_ge i l.length with h | h
  · exact val_drop l i h
  · rw [getD_ge h, List.drop_of_length_le h, List.drop_of_length_le (by omega)]; rfl
theorem val_set_take (O : List Int) (i : Nat) (s : Int) (hi : i < O.length) : val ((O.set i s).take (i + 1)) = val (O.take i) + 4294967296 ^ i * s.toNat := by
  rw [val_take', take_set_le _ _ _ _ (Nat.le_refl _), getD_set _ _ _ _ hi, if_pos rfl]

/-- A word of a sum. -/
theorem add_step (x y O : List Int) (i : Nat) (cy : Int) (hx : Dg x) (hy : Dg y) (hi : i < O.length) (hc : 0 ≤ cy ∧ cy ≤ 1)
    (h : val (O.take i) + 4294967296 ^ i * cy.toNat = val (x.take i) + val (y.take i)) :
    val ((O.set i ((x.getD i 0 + y.getD i 0 + cy) % 4294967296)).take (i + 1)) + 4294967296 ^ (i + 1) * ((x.getD i 0 + y.getD i 0 + cy) / 4294967296).toNat = val (x.take (i + 1)) + val (y.take (i + 1)) ∧
    0 ≤ (x.getD i 0 + y.getD i 0 + cy) / 4294967296 ∧ (x.getD i 0 + y.getD i 0 + cy) / 4294967296 ≤ 1 := by
  have h1 := dg_getD hx i
  have h2 := dg_getD hy i
  rw [val_set_take _ _ _ hi, val_take', val_take', Nat.pow_succ]
  generalize x.getD i 0 = a at *
  generalize y.getD i 0 = b at *
  generalize 4294967296 ^ i = p at *
  refine ⟨?_, by omega, by omega⟩
  have e : ((a + b + cy) % 4294967296).toNat + 4294967296 * ((a + b + cy) / 4294967296).toNat = a.toNat + b.toNat + cy.toNat := by omega
  generalize ((a + b + cy) % 4294967296).toNat = u at *
  generalize ((a + b + cy) / 4294967296).toNat = v at *
  have e2 : p * (u + 4294967296 * v) = p * (a.toNat + b.toNat + cy.toNat) := by rw [e]
  grind

/-- A word of a product's row. -/
theorem mul_step (y O : List Int) (V0 X : Nat) (i j : Nat) (c Y Z : Int) (hy : Dg y) (hO : Dg O) (hi : i + j < O.length) (hX : X < 4294967296) (hc : 0 ≤ c ∧ c < 4294967296) (hY : y.getD j 0 = Y) (hZ : O.getD (i + j) 0 = Z)
    (h : val O + 4294967296 ^ (i + j) * c.toNat = V0 + 4294967296 ^ i * (X * val (y.take j))) :
    val (O.set (i + j) ((c + X * Y + Z) % 4294967296)) + 4294967296 ^ (i + (j + 1)) * ((c + X * Y + Z) / 4294967296).toNat = V0 + 4294967296 ^ i * (X * val (y.take (j + 1))) ∧
    0 ≤ (c + X * Y + Z) / 4294967296 ∧ (c + X * Y + Z) / 4294967296 < 4294967296 ∧ 0 ≤ c + X * Y + Z ∧ c + X * Y + Z < 18446744073709551616 ∧ 0 ≤ X * Y ∧ X * Y + Z < 18446744073709551616 := by
  have h1 := dg_getD hy j
  have h2 := dg_getD hO (i + j)
  have hs := val_set O (i + j) ((c + X * Y + Z) % 4294967296) hi
  rw [hY] at h1
  rw [hZ] at h2 hs
  rw [val_take', hY, show i + (j + 1) = (i + j) + 1 by omega, Nat.pow_succ]
  obtain ⟨y', rfl⟩ := Int.eq_ofNat_of_zero_le h1.1
  obtain ⟨z', rfl⟩ := Int.eq_ofNat_of_zero_le h2.1
  obtain ⟨c', rfl⟩ := Int.eq_ofNat_of_zero_le hc.1
  have hp : X * y' ≤ 4294967295 * 4294967295 := Nat.mul_le_mul (by omega) (by omega)
  have hpi : (X : Int) * (y' : Int) = ((X * y' : Nat) : Int) := by simp
  rw [hpi] at hs ⊢
  rw [show 4294967296 ^ (i + j) = 4294967296 ^ i * 4294967296 ^ j from Nat.pow_add _ _ _] at *
  simp only [Int.toNat_natCast] at *
  generalize hP : X * y' = P at *
  refine ⟨?_, by omega, by omega, by omega, by omega, by omega, by omega⟩
  have e : ((((c' : Int) + P + z') % 4294967296).toNat) + 4294967296 * (((c' : Int) + P + z') / 4294967296).toNat = c' + P + z' := by omega
  generalize (((c' : Int) + P + z') % 4294967296).toNat = u at *
  generalize (((c' : Int) + P + z') / 4294967296).toNat = v at *
  generalize val (O.set (i + j) (((c' : Int) + P + z') % 4294967296)) = V1 at *
  generalize val O = V at *
  generalize val (y.take j) = W at *
  generalize 4294967296 ^ i = p at *
  generalize 4294967296 ^ j = q at *
  have e2 : p * q * (u + 4294967296 * v) = p * q * (c' + P + z') := by rw [e]
  subst hP
  grind

/-- The uppermost word of a product's row. -/
theorem mul_row (x y O O1 : List Int) (i m : Nat) (c X : Int) (hX : x.getD i 0 = X) (hm : y.length = m) (h0 : val O = val (x.take i) * val y) (hz : O1.getD (i + m) 0 = 0) (hi : i + m < O1.length)
    (h : val O1 + 4294967296 ^ (i + m) * c.toNat = val O + 4294967296 ^ i * (X.toNat * val (y.take m))) : val (O1.set (i + m) c) = val (x.take (i + 1)) * val y := by
  have hs := val_set O1 (i + m) c hi
  rw [hz] at hs
  rw [List.take_of_length_le (by omega)] at h
  rw [val_take', hX]
  simp only [Int.toNat_zero, Nat.mul_zero, Nat.add_zero] at hs
  rw [hs, h, h0]
  grind

/-- A word of a quotient by a word. -/
theorem short_step (l Q : List Int) (m : Nat) (d r X : Int) (hl : Dg l) (hm : m < Q.length) (hX : l.getD m 0 = X) (hr : 0 ≤ r ∧ r < d) (hd : d < 4294967296)
    (h : val (l.drop (m + 1)) = val (Q.drop (m + 1)) * d.toNat + r.toNat) :
    val (l.drop m) = val ((Q.set m ((r * 4294967296 + X) / d)).drop m) * d.toNat + ((r * 4294967296 + X) % d).toNat ∧ (0 ≤ (r * 4294967296 + X) / d ∧ (r * 4294967296 + X) / d < 4294967296) ∧ 0 ≤ (r * 4294967296 + X) % d ∧ (r * 4294967296 + X) % d < d := by
  have h1 := dg_getD hl m
  rw [hX] at h1
  rw [val_drop', val_drop' (Q.set m _), drop_set_lt _ _ _ _ (Nat.lt_succ_self m), getD_set _ _ _ _ hm, if_pos rfl, hX]
  have hq : (r * 4294967296 + X) / d < 4294967296 := Int.ediv_lt_of_lt_mul (by omega) (by have : (r + 1) * 4294967296 ≤ d * 4294967296 := Int.mul_le_mul_of_nonneg_right (by omega) (by omega); omega)
  have hq0 : 0 ≤ (r * 4294967296 + X) / d := Int.ediv_nonneg (by omega) (by omega)
  have hr0 : 0 ≤ (r * 4294967296 + X) % d := Int.emod_nonneg _ (by omega)
  have hr1 : (r * 4294967296 + X) % d < d := Int.emod_lt_of_pos _ (by omega)
  refine ⟨?_, ⟨hq0, hq⟩, hr0, hr1⟩
  have e := Int.mul_ediv_add_emod (r * 4294967296 + X) d
  generalize (r * 4294967296 + X) / d = q at *
  generalize (r * 4294967296 + X) % d = r' at *
  obtain ⟨r, rfl⟩ := Int.eq_ofNat_of_zero_le hr.1
  obtain ⟨X, rfl⟩ := Int.eq_ofNat_of_zero_le h1.1
  obtain ⟨q, rfl⟩ := Int.eq_ofNat_of_zero_le hq0
  obtain ⟨r', rfl⟩ := Int.eq_ofNat_of_zero_le hr0
  obtain ⟨d, rfl⟩ := Int.eq_ofNat_of_zero_le (show 0 ≤ d by omega)
  simp only [Int.toNat_natCast] at *
  have e2 : d * q + r' = r * 4294967296 + X := by
    have : ((d * q + r' : Nat) : Int) = ((r * 4294967296 + X : Nat) : Int) := by simp; exact e
    exact Int.ofNat.inj this
  rw [h]
  generalize val (Q.drop (m + 1)) = V
  grind

theorem pow_part {s : Nat} (hs : s < 32) : ∃ q, 4294967296 = 2 ^ s * q ∧ 2 ^ s ≤ 2147483648 := by
  refine ⟨2 ^ (32 - s), ?_, ?_⟩
  · rw [← Nat.pow_add, show s + (32 - s) = 32 by omega]
  · exact Nat.pow_le_pow_right (n := 2) (by decide) (show s ≤ 31 by omega)
/-- The low part of a word shifted is a multiple. -/
theorem low_part {s X : Nat} (hs : s < 32) : ∃ t, X * 2 ^ s % 4294967296 = 2 ^ s * t ∧ X * 2 ^ s % 4294967296 + 2 ^ s ≤ 4294967296 := by
  obtain ⟨q, hq, _⟩ := pow_part hs
  have hp : 0 < 2 ^ s := Nat.two_pow_pos s
  have e : X * 2 ^ s % 4294967296 = 2 ^ s * (X % q) := by rw [hq, Nat.mul_comm X, Nat.mul_mod_mul_left]
  refine ⟨X % q, e, ?_⟩
  rw [e]
  have hq0 : 0 < q := by
    rcases Nat.eq_zero_or_pos q with h | h
    · subst h; simp at hq
    · exact h
  have : X % q + 1 ≤ q := Nat.mod_lt _ hq0
  have h2 : 2 ^ s * (X % q + 1) ≤ 2 ^ s * q := Nat.mul_le_mul_left _ this
  rw [Nat.mul_add] at h2
  omega
/-- A word shifted to the left. -/
theorem moved_step (l O : List Int) (i s : Nat) (X Z : Nat) (hs : s < 32) (hi : i + 1 < O.length) (hX : l.getD i 0 = X) (hX1 : X < 4294967296) (hZ : O.getD i 0 = Z) (hz : Z < 2 ^ s)
    (h : val (O.take (i + 1)) = val (l.take i) * 2 ^ s) :
    val (((O.set i ((Z + X * 2 ^ s % 4294967296 : Nat) : Int)).set (i + 1) ((X * 2 ^ s / 4294967296 : Nat) : Int)).take (i + 2)) = val (l.take (i + 1)) * 2 ^ s ∧
    Z + X * 2 ^ s % 4294967296 < 4294967296 ∧ X * 2 ^ s / 4294967296 < 2 ^ s ∧ X * 2 ^ s / 4294967296 < 4294967296 ∧ X * 2 ^ s < 18446744073709551616 := by
  obtain ⟨q, hq, hp2⟩ := pow_part hs
  obtain ⟨t, ht, hlow⟩ := low_part (X := X) hs
  have hp : 0 < 2 ^ s := Nat.two_pow_pos s
  have hm : X * 2 ^ s ≤ 4294967295 * 2 ^ s := Nat.mul_le_mul_right _ (by omega)
  have hhi : X * 2 ^ s / 4294967296 < 2 ^ s := by
    rw [Nat.div_lt_iff_lt_mul (by decide)]; omega
  refine ⟨?_, by omega, hhi, by omega, by omega⟩
  rw [val_set_take _ _ _ (by rw [List.length_set]; exact hi), List.take_set]
  have h1 := val_set (O.take (i + 1)) i ((Z + X * 2 ^ s % 4294967296 : Nat) : Int) (by rw [List.length_take]; omega)
  have h2 : (O.take (i + 1)).getD i 0 = Z := by
    rw [← hZ, List.getD_eq_getElem?_getD, List.getD_eq_getElem?_getD, List.getElem?_take, if_pos (Nat.lt_succ_self i)]
  rw [h2] at h1
  rw [val_take', hX, Nat.pow_succ]
  simp only [Int.toNat_natCast] at *
  generalize val ((O.take (i + 1)).set i ((Z + X * 2 ^ s % 4294967296 : Nat) : Int)) = V1 at *
  generalize hP : X * 2 ^ s = P at *
  have e := Nat.div_add_mod P 4294967296
  generalize P / 4294967296 = u at *
  generalize P % 4294967296 = v at *
  generalize val (O.take (i + 1)) = V at *
  generalize val (l.take i) = W at *
  generalize 4294967296 ^ i = p at *
  subst h
  have e3 : p * (4294967296 * u + v) = p * (X * 2 ^ s) := by rw [e, hP]
  generalize 2 ^ s = T at *
  clear hq ht hP hm
  grind

end Bob
end

section
/- Go's bits of whole numbers of 32 and 64 digits as sums and rests. -/
namespace Bob
open Go

theorem or_sum_nat {a b s : Nat} (h : b < 2 ^ s) : 2 ^ s * a ||| b = 2 ^ s * a + b := (Nat.two_pow_add_eq_or_of_lt h a).symm
theorem u32_or_low {Z t s : Nat} (hz : Z < 2 ^ s) (h : 2 ^ s * t + Z < 4294967296) : bits .or .u32 (Z : Int) ((2 ^ s * t : Nat) : Int) = ((Z + 2 ^ s * t : Nat) : Int) := by
  rw [u32_or_nat _ _ (by omega) (by omega), Nat.or_comm, or_sum_nat hz, Nat.add_comm]
theorem u64_or_high {a b s : Nat} (hb : b < 2 ^ s) (h : 2 ^ s * a + b < 18446744073709551616) : bits .or .u64 ((2 ^ s * a : Nat) : Int) (b : Int) = ((2 ^ s * a + b : Nat) : Int) := by
  rw [u64_or_nat _ _ (by omega) (by omega), or_sum_nat hb]
theorem u64_or_low {a b s : Nat} (hb : b < 2 ^ s) (h : 2 ^ s * a + b < 18446744073709551616) : bits .or .u64 (b : Int) ((2 ^ s * a : Nat) : Int) = ((2 ^ s * a + b : Nat) : Int) := by
  rw [u64_or_nat _ _ (by omega) (by omega), Nat.or_comm, or_sum_nat hb]
end Bob
end

section
/- Plain numbers: the steps of the long division. No program in sight. -/
namespace Bob
set_option linter.unusedVariables false

/-- A word of a difference with a multiple. -/
theorem take_step (v U0 U : List Int) (i : Nat) (d c b X Z : Int) (hv : Dg v) (hi : i < U.length) (hd : 0 ≤ d ∧ d < 4294967296) (hc : 0 ≤ c ∧ c < 4294967296) (hb : 0 ≤ b ∧ b ≤ 1)
    (hX : v.getD i 0 = X) (hZ : U0.getD i 0 = Z) (hz : 0 ≤ Z ∧ Z < 4294967296)
    (h : val (U.take i) + d.toNat * val (v.take i) = val (U0.take i) + 4294967296 ^ i * (b.toNat + c.toNat)) :
    val ((U.set i ((Z - (c + d * X) % 4294967296 - b) % 4294967296)).take (i + 1)) + d.toNat * val (v.take (i + 1)) = val (U0.take (i + 1)) + 4294967296 ^ (i + 1) * ((if Z < (c + d * X) % 4294967296 + b then (1 : Int) else 0).toNat + ((c + d * X) / 4294967296).toNat) ∧
    0 ≤ c + d * X ∧ c + d * X < 18446744073709551616 ∧ 0 ≤ d * X ∧ (c + d * X) / 4294967296 < 4294967296 := by
  have h1 := dg_getD hv i
  rw [hX] at h1
  rw [val_set_take _ _ _ hi, val_take' v, val_take' U0, hX, hZ, Nat.pow_succ]
  obtain ⟨x, rfl⟩ := Int.eq_ofNat_of_zero_le h1.1
  obtain ⟨z, rfl⟩ := Int.eq_ofNat_of_zero_le hz.1
  obtain ⟨c, rfl⟩ := Int.eq_ofNat_of_zero_le hc.1
  obtain ⟨b, rfl⟩ := Int.eq_ofNat_of_zero_le hb.1
  obtain ⟨d, rfl⟩ := Int.eq_ofNat_of_zero_le hd.1
  have hp : d * x ≤ 4294967295 * 4294967295 := Nat.mul_le_mul (by omega) (by omega)
  have hpi : (d : Int) * (x : Int) = ((d * x : Nat) : Int) := by simp
  rw [hpi]
  simp only [Int.toNat_natCast] at *
  generalize hP : d * x = P at *
  refine ⟨?_, by omega, by omega, by omega, by omega⟩
  have e : (((z : Int) - ((c : Int) + P) % 4294967296 - b) % 4294967296).toNat + d * x = z + 4294967296 * ((if (z : Int) < ((c : Int) + P) % 4294967296 + b then (1 : Int) else 0).toNat + (((c : Int) + P) / 4294967296).toNat) - (b + c) ∧ b + c ≤ z + 4294967296 * ((if (z : Int) < ((c : Int) + P) % 4294967296 + b then (1 : Int) else 0).toNat + (((c : Int) + P) / 4294967296).toNat) := by
    rw [hP]
    split <;> omega
  generalize (((z : Int) - ((c : Int) + P) % 4294967296 - b) % 4294967296).toNat = r at *
  generalize (if (z : Int) < ((c : Int) + P) % 4294967296 + b then (1 : Int) else 0).toNat + (((c : Int) + P) / 4294967296).toNat = k at *
  generalize val (U.take i) = A at *
  generalize val (v.take i) = V at *
  generalize val (U0.take i) = A0 at *
  generalize 4294967296 ^ i = p at *
  have e2 : r + d * x + (b + c) = z + 4294967296 * k := by omega
  clear e hP
  have e3 : p * (r + d * x + (b + c)) = p * (z + 4294967296 * k) := by rw [e2]
  grind

/-- A word of a sum in place. -/
theorem give_step (v U0 U : List Int) (i : Nat) (c X Z : Int) (hi : i < U.length) (hc : 0 ≤ c ∧ c ≤ 1) (hX : v.getD i 0 = X) (hx : 0 ≤ X ∧ X < 4294967296) (hZ : U0.getD i 0 = Z) (hz : 0 ≤ Z ∧ Z < 4294967296)
    (h : val (U.take i) + 4294967296 ^ i * c.toNat = val (U0.take i) + val (v.take i)) :
    val ((U.set i ((Z + X + c) % 4294967296)).take (i + 1)) + 4294967296 ^ (i + 1) * ((Z + X + c) / 4294967296).toNat = val (U0.take (i + 1)) + val (v.take (i + 1)) ∧ 0 ≤ (Z + X + c) / 4294967296 ∧ (Z + X + c) / 4294967296 ≤ 1 := by
  rw [val_set_take _ _ _ hi, val_take' v, val_take' U0, hX, hZ, Nat.pow_succ]
  refine ⟨?_, by omega, by omega⟩
  have e : ((Z + X + c) % 4294967296).toNat + 4294967296 * ((Z + X + c) / 4294967296).toNat = Z.toNat + X.toNat + c.toNat := by omega
  generalize ((Z + X + c) % 4294967296).toNat = u at *
  generalize ((Z + X + c) / 4294967296).toNat = w at *
  generalize val (U.take i) = A at *
  generalize val (v.take i) = V at *
  generalize val (U0.take i) = A0 at *
  generalize 4294967296 ^ i = p at *
  have e3 : p * (u + 4294967296 * w) = p * (Z.toNat + X.toNat + c.toNat) := by rw [e]
  grind

/-- What a digit's guess is good for: no digit that fits is above it. -/
def GoodQ (u2 u1 u0 v1 v0 q : Nat) : Prop := q < 4294967296 ∧ ∀ t, t < 4294967296 → t * (v1 * 4294967296 + v0) ≤ (u2 * 4294967296 + u1) * 4294967296 + u0 → t ≤ q
theorem good_top (u2 u1 u0 v1 v0 : Nat) : GoodQ u2 u1 u0 v1 v0 4294967295 := ⟨by decide, fun t h _ => by omega⟩
theorem good_first {u2 u1 u0 v1 v0 : Nat} (h1 : u2 < v1) (hv : v1 < 4294967296) (hu1 : u1 < 4294967296) (hu : u0 < 4294967296) : GoodQ u2 u1 u0 v1 v0 ((u2 * 4294967296 + u1) / v1) := by
  refine ⟨?_, fun t ht h => ?_⟩
  · rw [Nat.div_lt_iff_lt_mul (by omega)]
    have : (u2 + 1) * 4294967296 ≤ v1 * 4294967296 := Nat.mul_le_mul_right _ h1
    rw [Nat.mul_comm] at this
    omega
  · rw [Nat.le_div_iff_mul_le (by omega)]
    rw [Nat.mul_add] at h
    have e : t * (v1 * 4294967296) = t * v1 * 4294967296 := by grind
    omega
theorem good_less {u2 u1 u0 v1 v0 n rest : Nat} (h : GoodQ u2 u1 u0 v1 v0 n) (e : n * v1 + rest = u2 * 4294967296 + u1) (hlt : rest * 4294967296 + u0 < n * v0) : GoodQ u2 u1 u0 v1 v0 (n - 1) ∧ 0 < n := by
  have hn : 0 < n := by
    rcases Nat.eq_zero_or_pos n with h0 | h0
    · subst h0; simp at hlt
    · exact h0
  refine ⟨⟨by have := h.1; omega, fun t ht h2 => ?_⟩, hn⟩
  have h3 := h.2 t ht h2
  rcases Nat.lt_or_ge t n with h4 | h4
  · omega
  · have : t = n := by omega
    subst this
    rw [Nat.mul_add] at h2
    have e2 : t * (v1 * 4294967296) = t * v1 * 4294967296 := by grind
    omega

/-- The uppermost word of a difference with a multiple: whether it was too much. -/
theorem take_end (U0 U : List Int) (n V : Nat) (d c b Z : Int) (hU0 : Dg U0) (hU : Dg U) (hn : n < U.length) (hn0 : n ≤ U0.length) (hc : 0 ≤ c ∧ c < 4294967296) (hb : 0 ≤ b ∧ b ≤ 1) (hZ : U0.getD n 0 = Z)
    (h : val (U.take n) + d.toNat * V = val (U0.take n) + 4294967296 ^ n * (b.toNat + c.toNat)) :
    (val (U0.take (n + 1)) < d.toNat * V ↔ Z < c + b) ∧ val ((U.set n ((Z - c - b) % 4294967296)).take (n + 1)) + d.toNat * V = val (U0.take (n + 1)) + (if val (U0.take (n + 1)) < d.toNat * V then 4294967296 ^ (n + 1) else 0) := by
  have hz := dg_getD hU0 n
  rw [hZ] at hz
  have h1 := val_lt (dg_take hU n)
  rw [List.length_take, Nat.min_eq_left (by omega)] at h1
  have h2 := val_lt (dg_take hU0 n)
  rw [List.length_take, Nat.min_eq_left (by omega)] at h2
  have hk : val (U0.take (n + 1)) < d.toNat * V ↔ Z < c + b := by
    rw [val_take', hZ]
    generalize val (U.take n) = A at *
    generalize val (U0.take n) = A0 at *
    generalize d.toNat * V = D at *
    generalize 4294967296 ^ n = p at *
    have e : (Z < c + b) ↔ Z.toNat < b.toNat + c.toNat := by omega
    rw [e]
    generalize Z.toNat = z at *
    generalize b.toNat + c.toNat = k at *
    constructor
    · intro hlt
      rcases Nat.lt_or_ge z k with h3 | h3
      · exact h3
      · have := Nat.mul_le_mul_left p h3
        omega
    · intro hlt
      have : p * (z + 1) ≤ p * k := Nat.mul_le_mul_left p hlt
      rw [Nat.mul_add] at this
      omega
  refine ⟨hk, ?_⟩
  have ei : (if val (U0.take (n + 1)) < d.toNat * V then 4294967296 ^ (n + 1) else 0) = 4294967296 ^ n * (4294967296 * (if Z < c + b then 1 else 0)) := by
    by_cases hq : Z < c + b
    · rw [if_pos (hk.2 hq), if_pos hq, Nat.pow_succ]
    · rw [if_neg (fun h => hq (hk.1 h)), if_neg hq]; simp
  rw [ei, val_set_take _ _ _ hn, val_take', hZ]
  have e : ((Z - c - b) % 4294967296).toNat + (b.toNat + c.toNat) = Z.toNat + 4294967296 * (if Z < c + b then 1 else 0) := by split <;> omega
  generalize ((Z - c - b) % 4294967296).toNat = r at *
  generalize 4294967296 * (if Z < c + b then 1 else 0) = k at *
  generalize val (U.take n) = A at *
  generalize val (U0.take n) = A0 at *
  generalize d.toNat * V = D at *
  generalize 4294967296 ^ n = p at *
  have e2 : p * (r + (b.toNat + c.toNat)) = p * (Z.toNat + k) := by rw [e]
  grind

/-- The uppermost word of a sum in place: it wraps round. -/
theorem give_end (U0 U : List Int) (n V : Nat) (c Z : Int) (hU0 : Dg U0) (hU : Dg U) (hn : n < U.length) (hc : 0 ≤ c ∧ c ≤ 1) (hZ : U0.getD n 0 = Z)
    (h : val (U.take n) + 4294967296 ^ n * c.toNat = val (U0.take n) + V) :
    val ((U.set n ((Z + c) % 4294967296)).take (n + 1)) = (val (U0.take (n + 1)) + V) % 4294967296 ^ (n + 1) := by
  have hz := dg_getD hU0 n
  rw [hZ] at hz
  have h1 := val_lt (dg_take hU n)
  rw [List.length_take, Nat.min_eq_left (by omega)] at h1
  rw [val_set_take _ _ _ hn, val_take', hZ]
  have e : ((Z + c) % 4294967296).toNat + 4294967296 * ((Z + c) / 4294967296).toNat = Z.toNat + c.toNat := by omega
  have hk : ((Z + c) % 4294967296).toNat < 4294967296 := by omega
  generalize ((Z + c) % 4294967296).toNat = r at *
  generalize ((Z + c) / 4294967296).toNat = k at *
  generalize val (U.take n) = A at *
  generalize val (U0.take n) = A0 at *
  rw [Nat.pow_succ]
  generalize 4294967296 ^ n = p at *
  have e2 : A0 + p * Z.toNat + V = (A + p * r) + p * 4294967296 * k := by
    have e3 : p * (r + 4294967296 * k) = p * (Z.toNat + c.toNat) := by rw [e]
    grind
  rw [e2, Nat.add_mul_mod_self_left, Nat.mod_eq_of_lt]
  have h5 : p * (r + 1) ≤ p * 4294967296 := Nat.mul_le_mul_left p hk
  rw [Nat.mul_add] at h5
  omega

/-- A word of a shift to the right. -/
theorem shr_word (l : List Int) (i s x y : Nat) (hs : s < 32) (hx : l.getD i 0 = x) (hy : l.getD (i + 1) 0 = y) (hx1 : x < 4294967296) :
    val (l.drop i) / 2 ^ s = (x + 4294967296 * y) / 2 ^ s % 4294967296 + 4294967296 * (val (l.drop (i + 1)) / 2 ^ s) := by
  obtain ⟨q, hq, _⟩ := pow_part hs
  have hp : 0 < 2 ^ s := Nat.two_pow_pos s
  rw [val_drop', val_drop' l (i + 1), hx, hy]
  simp only [Int.toNat_natCast]
  generalize val (l.drop (i + 1 + 1)) = t
  have e1 : x + 4294967296 * (y + 4294967296 * t) = (x + 4294967296 * y) + 2 ^ s * (q * 4294967296 * t) := by grind
  have e2 : y + 4294967296 * t = y + 2 ^ s * (q * t) := by grind
  rw [e1, e2, Nat.add_mul_div_left _ _ hp, Nat.add_mul_div_left _ _ hp]
  have e3 : (x + 4294967296 * y) / 2 ^ s / 4294967296 = y / 2 ^ s := by
    rw [Nat.div_div_eq_div_mul, Nat.mul_comm (2 ^ s), ← Nat.div_div_eq_div_mul]
    rw [show (x + 4294967296 * y) / 4294967296 = y by omega]
  have e4 := Nat.div_add_mod ((x + 4294967296 * y) / 2 ^ s) 4294967296
  rw [e3] at e4
  grind
theorem shr_step (l O : List Int) (i s x y : Nat) (hs : s < 32) (hi : i < O.length) (hx : l.getD i 0 = x) (hy : l.getD (i + 1) 0 = y) (hx1 : x < 4294967296)
    (h : val (O.take i) + 4294967296 ^ i * (val (l.drop i) / 2 ^ s) = val l / 2 ^ s) :
    val ((O.set i (((x + 4294967296 * y) / 2 ^ s % 4294967296 : Nat) : Int)).take (i + 1)) + 4294967296 ^ (i + 1) * (val (l.drop (i + 1)) / 2 ^ s) = val l / 2 ^ s := by
  rw [shr_word l i s x y hs hx hy hx1] at h
  rw [val_set_take _ _ _ hi, ← h, Nat.pow_succ]
  simp only [Int.toNat_natCast]
  grind
theorem shr_step_append (l O : List Int) (s x y : Nat) (hs : s < 32) (hx : l.getD O.length 0 = x) (hy : l.getD (O.length + 1) 0 = y) (hx1 : x < 4294967296)
    (h : val O + 4294967296 ^ O.length * (val (l.drop O.length) / 2 ^ s) = val l / 2 ^ s) :
    val (O ++ [(((x + 4294967296 * y) / 2 ^ s % 4294967296 : Nat) : Int)]) + 4294967296 ^ (O.length + 1) * (val (l.drop (O.length + 1)) / 2 ^ s) = val l / 2 ^ s := by
  rw [shr_word l O.length s x y hs hx hy hx1] at h
  rw [val_append, ← h, Nat.pow_succ]
  simp only [val, Int.toNat_natCast]
  grind

/-- The division's digit: what is known when a digit has been guessed (and each time one has been given back). -/
theorem div_less {w V d x n : Nat} (hd : d < 4294967296) (hV : V < 4294967296 ^ n) (hlt : w < d * V) (hx : x + d * V = w + 4294967296 ^ (n + 1)) :
    (w < (d - 1) * V → (x + V) % 4294967296 ^ (n + 1) + (d - 1) * V = w + 4294967296 ^ (n + 1) ∧ 4294967296 ^ n ≤ (x + V) % 4294967296 ^ (n + 1)) ∧
    ((d - 1) * V ≤ w → (x + V) % 4294967296 ^ (n + 1) + (d - 1) * V = w ∧ (x + V) % 4294967296 ^ (n + 1) < V) ∧ 0 < d := by
  have hd0 : 0 < d := by
    rcases Nat.eq_zero_or_pos d with h | h
    · subst h; simp at hlt
    · exact h
  obtain ⟨m, rfl⟩ : ∃ m, d = m + 1 := ⟨d - 1, by omega⟩
  rw [Nat.add_sub_cancel]
  have e : (m + 1) * V = m * V + V := by grind
  rw [e] at hlt hx
  have hm : m * V ≤ 4294967294 * 4294967296 ^ n := Nat.mul_le_mul (by omega) (by omega)
  rw [Nat.pow_succ] at hx ⊢
  generalize hD : m * V = D at *
  generalize 4294967296 ^ n = p at *
  refine ⟨fun h => ?_, fun h => ?_, hd0⟩
  · rw [Nat.mod_eq_of_lt (by omega)]
    omega
  · rw [show x + V = (w - D) + p * 4294967296 by omega, Nat.add_mod_right, Nat.mod_eq_of_lt (by omega)]
    omega

/-- The guess, as the code corrects it. -/
def gLoop (v1 v0 u0 : Nat) : Nat → Nat → Nat → Nat
  | 0, n, _ => n
  | f + 1, n, r => if r < 4294967296 then (if r * 4294967296 + u0 < n * v0 then gLoop v1 v0 u0 f (n - 1) (r + v1) else n) else n
def gF (u2 u1 u0 v1 v0 : Nat) : Nat := if v1 ≤ u2 then 4294967295 else gLoop v1 v0 u0 ((u2 * 4294967296 + u1) / v1 + 1) ((u2 * 4294967296 + u1) / v1) ((u2 * 4294967296 + u1) % v1)
theorem good_gLoop {u2 u1 u0 v1 v0 : Nat} : ∀ (f n r : Nat), GoodQ u2 u1 u0 v1 v0 n → n * v1 + r = u2 * 4294967296 + u1 → GoodQ u2 u1 u0 v1 v0 (gLoop v1 v0 u0 f n r)
  | 0, n, r, h, _ => h
  | f + 1, n, r, h, e => by
    rw [gLoop]
    by_cases h1 : r < 4294967296
    · rw [if_pos h1]
      by_cases h2 : r * 4294967296 + u0 < n * v0
      · rw [if_pos h2]
        have h3 := good_less h e h2
        refine good_gLoop f (n - 1) (r + v1) h3.1 ?_
        obtain ⟨m, rfl⟩ : ∃ m, n = m + 1 := ⟨n - 1, by have := h3.2; omega⟩
        rw [Nat.add_mul] at e
        rw [Nat.add_sub_cancel]; omega
      · rw [if_neg h2]; exact h
    · rw [if_neg h1]; exact h
theorem good_gF {u2 u1 u0 v1 v0 : Nat} (hv : v1 < 4294967296) (hu1 : u1 < 4294967296) (hu : u0 < 4294967296) : GoodQ u2 u1 u0 v1 v0 (gF u2 u1 u0 v1 v0) := by
  unfold gF
  by_cases h : v1 ≤ u2
  · rw [if_pos h]; exact good_top _ _ _ _ _
  · rw [if_neg h]
    refine good_gLoop _ _ _ (good_first (by omega) hv hu1 hu) ?_
    rw [Nat.mul_comm]; exact Nat.div_add_mod _ _
end Bob
end

section
/- Plain numbers: how many binary digits a number has. No program in sight. -/
namespace Bob
set_option linter.unusedVariables false

/-- Binary digits. -/
def bl (n : Nat) : Nat := if n = 0 then 0 else n.log2 + 1
theorem bl_zero : bl 0 = 0 := rfl
theorem bl_lt (n : Nat) : n < 2 ^ bl n := by
  unfold bl
  by_cases h : n = 0
  · subst h; simp
  · rw [if_neg h]; exact Nat.lt_log2_self
theorem bl_le {n : Nat} (h : n ≠ 0) : 2 ^ (bl n - 1) ≤ n ∧ 0 < bl n := by
  unfold bl
  rw [if_neg h, Nat.add_sub_cancel]
  exact ⟨Nat.log2_self_le h, Nat.succ_pos _⟩
theorem bl_unique {n k : Nat} (hk : 0 < k) (h1 : 2 ^ (k - 1) ≤ n) (h2 : n < 2 ^ k) : bl n = k := by
  have hn : n ≠ 0 := by have := Nat.two_pow_pos (k - 1); omega
  obtain ⟨h3, h4⟩ := bl_le hn
  have h5 := bl_lt n
  have h6 : k - 1 < bl n := (Nat.pow_lt_pow_iff_right (a := 2) (by decide)).1 (Nat.lt_of_le_of_lt h1 h5)
  have h7 : bl n - 1 < k := (Nat.pow_lt_pow_iff_right (a := 2) (by decide)).1 (Nat.lt_of_le_of_lt h3 h2)
  omega
theorem bl_le_of {n k : Nat} (h : n < 2 ^ k) : bl n ≤ k := by
  by_cases hn : n = 0
  · subst hn; simp [bl]
  · have := bl_le hn
    have h7 : bl n - 1 < k := (Nat.pow_lt_pow_iff_right (a := 2) (by decide)).1 (Nat.lt_of_le_of_lt this.1 h)
    omega
theorem lt_bl_of {n k : Nat} (h : 2 ^ k ≤ n) : k < bl n := (Nat.pow_lt_pow_iff_right (a := 2) (by decide)).1 (Nat.lt_of_le_of_lt h (bl_lt n))
theorem bl_pos {n : Nat} (h : n ≠ 0) : 0 < bl n := (bl_le h).2
theorem bl_eq_bitLen (x : Nat) (h : x < 18446744073709551616) : Go.Lib.bitLen x = bl x := by
  by_cases hx : x = 0
  · subst hx; rfl
  · have := Go.Lib.bitLenAux_bounds 64 x (by simpa using h) hx
    exact (bl_unique (Nat.lt_of_lt_of_le Nat.zero_lt_one this.1) this.2.1 this.2.2).symm

/-- The uppermost word, and what it says of the number. -/
theorem top_bounds {n : Nat} (h : n ≠ 0) : (((words n).getD ((words n).length - 1) 0).toNat) * 4294967296 ^ ((words n).length - 1) ≤ n ∧ n < (((words n).getD ((words n).length - 1) 0).toNat + 1) * 4294967296 ^ ((words n).length - 1) := by
  have hl := words_len_pos h
  have h1 := val_take_drop (words n) ((words n).length - 1) (by omega)
  rw [val_words, val_drop _ _ (by omega), List.drop_of_length_le (l := words n) (i := (words n).length - 1 + 1) (by omega)] at h1
  have h2 := val_lt (dg_take (dg_words n) ((words n).length - 1))
  rw [List.length_take, Nat.min_eq_left (by omega)] at h2
  simp only [val, Nat.mul_zero, Nat.add_zero] at h1
  generalize val ((words n).take ((words n).length - 1)) = a at *
  generalize 4294967296 ^ ((words n).length - 1) = p at *
  generalize ((words n).getD ((words n).length - 1) 0).toNat = x at *
  rw [Nat.add_mul, Nat.mul_comm x p]
  omega
theorem bl_words {n : Nat} (h : n ≠ 0) (x : Nat) (hx : (words n).getD ((words n).length - 1) 0 = x) (hx1 : x < 4294967296) : bl n = ((words n).length - 1) * 32 + bl x := by
  have hb := top_bounds h
  have ht := words_top h
  rw [hx] at hb ht
  simp only [Int.toNat_natCast] at hb
  have hx0 : x ≠ 0 := by omega
  have h3 := bl_le hx0
  have h4 := bl_lt x
  have hp : 4294967296 ^ ((words n).length - 1) = 2 ^ (((words n).length - 1) * 32) := by
    rw [show 4294967296 = 2 ^ 32 from rfl, ← Nat.pow_mul, Nat.mul_comm]
  rw [hp] at hb
  generalize ((words n).length - 1) * 32 = e at *
  refine bl_unique (by omega) ?_ ?_
  · rw [show e + bl x - 1 = (bl x - 1) + e by omega, Nat.pow_add]
    exact Nat.le_trans (Nat.mul_le_mul_right _ h3.1) hb.1
  · rw [Nat.add_comm, Nat.pow_add]
    exact Nat.lt_of_lt_of_le hb.2 (Nat.mul_le_mul_right _ h4)
theorem bl_words_bound {n k : Nat} (h : (words n).length ≤ k) : bl n ≤ k * 32 := by
  refine bl_le_of (Nat.lt_of_lt_of_le (words_lt n) ?_)
  rw [show 4294967296 = 2 ^ 32 from rfl, ← Nat.pow_mul, Nat.mul_comm]
  exact Nat.pow_le_pow_right (by decide) (Nat.mul_le_mul_right _ h)
theorem words_len_bl {n k : Nat} (h : bl n ≤ 32 * k) : (words n).length ≤ k := by
  refine words_len_le (Nat.lt_of_lt_of_le (bl_lt n) ?_)
  rw [show 4294967296 = 2 ^ 32 from rfl, ← Nat.pow_mul]
  exact Nat.pow_le_pow_right (by decide) h
end Bob
end

section
/- Plain numbers: the long division's digit and round. No program in sight. -/
namespace Bob
set_option linter.unusedVariables false

theorem val_drop_zero {l : List Int} {k : Nat} (h : val l < 4294967296 ^ k) : val (l.drop k) = 0 := by
  rcases Nat.lt_or_ge l.length k with h1 | h1
  · rw [List.drop_of_length_le (by omega)]; rfl
  · have h2 := val_take_drop l k h1
    rcases Nat.eq_zero_or_pos (val (l.drop k)) with h3 | h3
    · exact h3
    · have : 4294967296 ^ k * 1 ≤ 4294967296 ^ k * val (l.drop k) := Nat.mul_le_mul_left _ h3
      omega
theorem val_take_full {l : List Int} {k : Nat} (h : val l < 4294967296 ^ k) : val (l.take k) = val l := by
  rcases Nat.lt_or_ge l.length k with h1 | h1
  · rw [List.take_of_length_le (by omega)]
  · have h2 := val_take_drop l k h1
    rw [val_drop_zero h] at h2
    omega

/-- A window's value by its three uppermost words. -/
theorem top3 (l : List Int) (k : Nat) (hd : Dg l) (hk : k ≤ l.length) (h : val l < 4294967296 ^ (k + 3)) (a b c : Nat) (ha : l.getD (k + 2) 0 = a) (hb : l.getD (k + 1) 0 = b) (hc : l.getD k 0 = c) :
    val l < ((a * 4294967296 + b) * 4294967296 + c + 1) * 4294967296 ^ k := by
  have h1 := val_take_drop l k hk
  have h2 := val_lt (dg_take hd k)
  rw [List.length_take, Nat.min_eq_left hk] at h2
  rw [val_drop' l k, val_drop' l (k + 1), val_drop' l (k + 1 + 1), ha, hb, hc, val_drop_zero h] at h1
  simp only [Int.toNat_natCast] at h1
  generalize val (l.take k) = t at *
  generalize 4294967296 ^ k = p at *
  rw [h1]
  have e : ((a * 4294967296 + b) * 4294967296 + c + 1) * p = p * (c + 4294967296 * (b + 4294967296 * (a + 4294967296 * 0))) + p := by grind
  omega
theorem top2_ge (l : List Int) (k : Nat) (hk : k ≤ l.length) (a b : Nat) (ha : l.getD (k + 1) 0 = a) (hb : l.getD k 0 = b) : (a * 4294967296 + b) * 4294967296 ^ k ≤ val l := by
  have h1 := val_take_drop l k hk
  rw [val_drop' l k, val_drop' l (k + 1), ha, hb] at h1
  simp only [Int.toNat_natCast] at h1
  generalize val (l.take k) = t at *
  generalize 4294967296 ^ k = p at *
  generalize val (l.drop (k + 1 + 1)) = z at *
  rw [h1]
  have e : (a * 4294967296 + b) * p + p * 4294967296 * 4294967296 * z = p * (b + 4294967296 * (a + 4294967296 * z)) := by grind
  omega

/-- The guess is no less than the digit. -/
theorem digit_le {W V u2 u1 u0 v1 v0 q p : Nat} (hg : GoodQ u2 u1 u0 v1 v0 q) (hV : 0 < V) (hW : W < 4294967296 * V) (h3 : W < ((u2 * 4294967296 + u1) * 4294967296 + u0 + 1) * p) (h2 : (v1 * 4294967296 + v0) * p ≤ V) : W / V ≤ q := by
  refine hg.2 (W / V) ?_ ?_
  · rw [Nat.div_lt_iff_lt_mul hV]; exact hW
  · have h4 : W / V * V ≤ W := Nat.div_mul_le_self W V
    have h5 : W / V * ((v1 * 4294967296 + v0) * p) ≤ W / V * V := Nat.mul_le_mul_left _ h2
    have h6 : W / V * (v1 * 4294967296 + v0) * p < ((u2 * 4294967296 + u1) * 4294967296 + u0 + 1) * p := by
      rw [Nat.mul_assoc]; omega
    have := Nat.lt_of_mul_lt_mul_right h6
    omega

/-- A window's uppermost word. -/
theorem top_word {l : List Int} {n : Nat} (hd : Dg l) (hn : n < l.length) (a : Int) (ha : l.getD n 0 = a) : (4294967296 ^ n ≤ val (l.take (n + 1)) → a ≠ 0) ∧ (val (l.take (n + 1)) < 4294967296 ^ n → a = 0) := by
  have h1 := val_lt (dg_take hd n)
  rw [List.length_take, Nat.min_eq_left (by omega)] at h1
  have h2 := dg_getD hd n
  rw [ha] at h2
  rw [val_take', ha]
  refine ⟨fun h h0 => ?_, fun h => ?_⟩
  · subst h0; simp at h; omega
  · rcases Int.lt_or_le 0 a with h3 | h3
    · have : 4294967296 ^ n * 1 ≤ 4294967296 ^ n * a.toNat := Nat.mul_le_mul_left _ (by omega)
      omega
    · omega

/-- One round of the long division. -/
theorem div_round {NA V A d x p c : Nat} (Q : List Int) (t : Nat) (ht : t < Q.length) (hd : d < 4294967296) (W : Nat)
    (h : NA = 4294967296 ^ (t + 1) * val (Q.drop (t + 1)) * V + (A + 4294967296 ^ t * W)) (hx : x + d * V = W) :
    NA = 4294967296 ^ t * val ((Q.set t (d : Int)).drop t) * V + (A + 4294967296 ^ t * x) := by
  rw [val_drop', drop_set_lt _ _ _ _ (Nat.lt_succ_self t), getD_set _ _ _ _ ht, if_pos rfl, Int.toNat_natCast]
  rw [h, Nat.pow_succ, ← hx]
  generalize val (Q.drop (t + 1)) = q
  generalize 4294967296 ^ t = p
  grind
theorem window_lt {l : List Int} {t V : Nat} (hd : Dg l) (ht : t < l.length) (h : val (l.drop (t + 1)) < V) : val (l.drop t) < 4294967296 * V := by
  have h1 := dg_getD hd t
  rw [val_drop']
  omega
/-- The end of the long division. -/
theorem div_done {N1 N2 s Q U : Nat} (h0 : N2 ≠ 0) (h : N1 * 2 ^ s = Q * (N2 * 2 ^ s) + U) (hU : U < N2 * 2 ^ s) : Q = N1 / N2 ∧ U / 2 ^ s = N1 % N2 := by
  have hp : 0 < 2 ^ s := Nat.two_pow_pos s
  have hQ : Q = N1 / N2 := by
    have h1 : N1 * 2 ^ s / (N2 * 2 ^ s) = N1 / N2 := Nat.mul_div_mul_right _ _ hp
    rw [← h1, h, Nat.mul_comm Q, Nat.mul_add_div (by omega), Nat.div_eq_of_lt hU, Nat.add_zero]
  refine ⟨hQ, ?_⟩
  have h2 := Nat.div_add_mod N1 N2
  rw [← hQ] at h2
  have h3 : U = (N1 % N2) * 2 ^ s := by
    have e : N1 * 2 ^ s = Q * (N2 * 2 ^ s) + (N1 % N2) * 2 ^ s := by
      generalize N1 % N2 = r at *
      rw [← h2]; grind
    omega
  rw [h3, Nat.mul_div_cancel _ hp]
theorem start_lt {U : List Int} {N1 N2 s K m : Nat} (hK : K ≤ U.length) (h : val U = N1 * 2 ^ s) (h1 : N1 < 4294967296 ^ (K + m)) (h2 : 4294967296 ^ m ≤ N2) : val (U.drop K) < N2 * 2 ^ s := by
  have h3 := val_take_drop U K hK
  have h4 : 4294967296 ^ K * val (U.drop K) < 4294967296 ^ K * (4294967296 ^ m * 2 ^ s) := by
    have h5 : N1 * 2 ^ s < 4294967296 ^ (K + m) * 2 ^ s := Nat.mul_lt_mul_of_pos_right h1 (Nat.two_pow_pos s)
    rw [Nat.pow_add, Nat.mul_assoc] at h5
    omega
  have h6 := Nat.lt_of_mul_lt_mul_left h4
  exact Nat.lt_of_lt_of_le h6 (Nat.mul_le_mul_right _ h2)
theorem pow_bound {W V n : Nat} (hW : W < 4294967296 * V) (hV : V < 4294967296 ^ n) : W < 4294967296 ^ (n + 1) := by
  rw [Nat.pow_succ]
  generalize 4294967296 ^ n = p at *
  omega
theorem div_end_round {NA V n t d : Nat} {U U2 Q : List Int} (hU : t ≤ U.length) (hV : V < 4294967296 ^ n) (hV0 : 0 < V) (hlt : val (U.drop (t + 1)) < V) (hDU : Dg U) (htU : t < U.length)
    (hd : d < 4294967296) (hge : val (U.drop t) / V ≤ d) (hnb : ¬ val (U.drop t) < d * V) (hx : val (U2.take (n + 1)) + d * V = val (U.drop t) + (if val (U.drop t) < d * V then 4294967296 ^ (n + 1) else 0))
    (hdr : U2.drop (n + 1) = (U.drop t).drop (n + 1)) (hl2 : U2.length = (U.drop t).length) (hln : n + 1 ≤ U2.length) (htQ : t < Q.length) (h : NA = 4294967296 ^ (t + 1) * val (Q.drop (t + 1)) * V + val U) :
    NA = 4294967296 ^ t * val ((Q.set t (d : Int)).drop t) * V + val (U.take t ++ U2) ∧ val ((U.take t ++ U2).drop t) < V := by
  rw [if_neg hnb, Nat.add_zero] at hx
  have hW := window_lt hDU htU hlt
  have hWn : val (U.drop t) < 4294967296 ^ (n + 1) := by
    exact pow_bound hW hV
  have hdW : d = val (U.drop t) / V := by
    refine Nat.le_antisymm ?_ hge
    rw [Nat.le_div_iff_mul_le hV0]; omega
  have hx2 : val (U2.take (n + 1)) < V := by
    have h1 := Nat.div_add_mod (val (U.drop t)) V
    have h2 := Nat.mod_lt (val (U.drop t)) hV0
    rw [← hdW, Nat.mul_comm] at h1
    omega
  have hU2 : val U2 = val (U2.take (n + 1)) := by
    have h1 := val_take_drop U2 (n + 1) hln
    rw [hdr, val_drop_zero hWn, Nat.mul_zero, Nat.add_zero] at h1
    exact h1
  have htl : (U.take t).length = t := by rw [List.length_take]; omega
  refine ⟨?_, ?_⟩
  · rw [val_append, htl, hU2]
    refine div_round Q t htQ hd (val (U.drop t)) ?_ hx (p := 0) (c := 0)
    rw [h, val_take_drop U t hU]
  · rw [List.drop_append_of_le_length (by omega), List.drop_of_length_le (by omega), List.nil_append, hU2]
    exact hx2
end Bob
end

section
/- Plain numbers: decimal digits, the lowest first, and Go's numeral. No program in sight. -/
namespace Bob
open Go
set_option linter.unusedVariables false

/-- k digits of x, the lowest first, as bytes. -/
def pad : Nat → Nat → List Int
  | 0, _ => []
  | k + 1, x => ((48 + x % 10 : Nat) : Int) :: pad k (x / 10)
theorem pad_length (k x : Nat) : (pad k x).length = k := by
  induction k generalizing x with
  | zero => rfl
  | succ k ih => rw [pad, List.length_cons, ih]
theorem pad_add (j k x : Nat) : pad (j + k) x = pad j x ++ pad k (x / 10 ^ j) := by
  induction j generalizing x with
  | zero => rw [Nat.zero_add, Nat.pow_zero, Nat.div_one]; rfl
  | succ j ih => rw [show j + 1 + k = j + k + 1 by omega, pad, pad, ih, List.cons_append, Nat.div_div_eq_div_mul, Nat.pow_succ, Nat.mul_comm]
theorem pad_snoc (k x : Nat) : pad (k + 1) x = pad k x ++ [((48 + x / 10 ^ k % 10 : Nat) : Int)] := by
  rw [pad_add, pad, pad]
theorem pad_getD (k x i : Nat) (h : i < k) : (pad k x).getD i 0 = ((48 + x / 10 ^ i % 10 : Nat) : Int) := by
  induction k generalizing x i with
  | zero => omega
  | succ k ih =>
    cases i with
    | zero => rw [pad, List.getD_cons_zero, Nat.pow_zero, Nat.div_one]
    | succ i => rw [pad, List.getD_cons_succ, ih _ _ (by omega), Nat.div_div_eq_div_mul, Nat.pow_succ, Nat.mul_comm]
theorem pad_take (j k x : Nat) (h : j ≤ k) : (pad k x).take j = pad j x := by
  obtain ⟨d, rfl⟩ := Nat.exists_eq_add_of_le h
  rw [pad_add, List.take_left' (pad_length _ _)]
theorem pad_byte (k x : Nat) : ∀ d ∈ pad k x, 48 ≤ d ∧ d ≤ 57 := by
  induction k generalizing x with
  | zero => intro d h; cases h
  | succ k ih =>
    intro d h
    rw [pad] at h
    rcases List.mem_cons.1 h with h | h
    · subst h; omega
    · exact ih _ d h
/-- Digits of a piece do not look beyond it. -/
theorem pad_mod (k x : Nat) : pad k (x % 10 ^ k) = pad k x := by
  induction k generalizing x with
  | zero => rfl
  | succ k ih =>
    rw [pad, pad, Nat.pow_succ]
    have h1 : x % (10 ^ k * 10) % 10 = x % 10 := by rw [Nat.mod_mod_of_dvd _ (Nat.dvd_mul_left _ _)]
    have h2 : x % (10 ^ k * 10) / 10 = x / 10 % 10 ^ k := by rw [Nat.mul_comm, Nat.mod_mul_right_div_self]
    rw [h1, h2, ih]

/-- A byte's list as bytes. -/
def byt (l : List Int) : List UInt8 := l.map fun n => UInt8.ofNat n.toNat
theorem byt_append (a b : List Int) : byt (a ++ b) = byt a ++ byt b := List.map_append
/-- Go's numeral: the digits, the highest first. -/
theorem decDigits_pad (n N : Nat) (h1 : N < 10 ^ (n + 1)) (h2 : n = 0 ∨ 10 ^ n ≤ N) : byt (pad (n + 1) N).reverse = Lib.decDigits N := by
  induction n generalizing N with
  | zero =>
    rw [Lib.decDigits, dif_pos (by omega), pad, pad, Nat.mod_eq_of_lt (by omega)]
    rfl
  | succ n ih =>
    have h3 : 10 ^ (n + 1) ≤ N := by rcases h2 with h | h; · cases h
                                     · exact h
    have h4 : 10 ≤ 10 ^ (n + 1) := by
      have := Nat.pow_le_pow_right (n := 10) (by decide) (show 1 ≤ n + 1 by omega)
      simpa using this
    rw [Lib.decDigits, dif_neg (by omega), pad, List.reverse_cons, byt_append, ih (N / 10) (by rw [Nat.pow_succ] at h1; omega) (.inr (by rw [Nat.pow_succ] at h3; omega))]
    rfl
/-- The numeral as a string. -/
def decS (N : Nat) : ByteArray := ⟨(Lib.decDigits N).toArray⟩
theorem strOfNums_dec (n N : Nat) (h1 : N < 10 ^ (n + 1)) (h2 : n = 0 ∨ 10 ^ n ≤ N) : strOfNums (pad (n + 1) N).reverse = decS N := by
  unfold decS
  rw [← decDigits_pad n N h1 h2]
  rfl
/-- A leading nought says that the number is less. -/
theorem lt_of_nought {n N : Nat} (h : N < 10 ^ (n + 1)) (h0 : N / 10 ^ n % 10 = 0) : N < 10 ^ n := by
  have hp : 0 < 10 ^ n := Nat.pow_pos (by decide)
  have h1 : N / 10 ^ n < 10 := Nat.div_lt_of_lt_mul (by rw [← Nat.pow_succ]; exact h)
  have h2 : N / 10 ^ n = 0 := by generalize N / 10 ^ n = y at *; omega
  rw [Nat.div_eq_zero_iff] at h2
  omega
theorem ge_of_digit {n N : Nat} (h0 : N / 10 ^ n % 10 ≠ 0) : 10 ^ n ≤ N := by
  rcases Nat.lt_or_ge N (10 ^ n) with h | h
  · rw [Nat.div_eq_of_lt h] at h0; simp at h0
  · exact h
end Bob
end

section
/- Plain strings of decimal digits, and the numbers that they mean. No program in sight. -/
namespace Bob
open Go
set_option linter.unusedVariables false

/-- A list of bytes as a string. -/
def S (l : List UInt8) : ByteArray := ⟨l.toArray⟩
theorem S_size (l : List UInt8) : (S l).size = l.length := by simp [S, ByteArray.size]
theorem S_data (s : ByteArray) : S s.data.toList = s := by cases s; simp [S]
theorem S_inj {a b : List UInt8} (h : S a = S b) : a = b := by
  have := congrArg (fun s : ByteArray => s.data.toList) h
  simpa [S] using this
theorem decS_eq (N : Nat) : decS N = S (Lib.decDigits N) := rfl
theorem S_take (l : List UInt8) (k : Nat) : (S l).extract 0 k = S (l.take k) := by
  apply ByteArray.ext
  simp [S, ByteArray.data_extract]
theorem S_drop (l : List UInt8) (k : Nat) : (S l).extract k (S l).size = S (l.drop k) := by
  apply ByteArray.ext
  rw [S_size]
  simp only [S, ByteArray.data_extract]
  simp
  exact List.take_of_length_le (by rw [List.length_drop]; exact Nat.le_refl _)

/-- All are decimal digits. -/
def DD (l : List UInt8) : Prop := ∀ d ∈ l, 48 ≤ d.toNat ∧ d.toNat ≤ 57
theorem dd_take {l : List UInt8} (h : DD l) (k : Nat) : DD (l.take k) := fun d hd => h d (List.mem_of_mem_take hd)
theorem dd_drop {l : List UInt8} (h : DD l) (k : Nat) : DD (l.drop k) := fun d hd => h d (List.mem_of_mem_drop hd)
theorem dd_append {a b : List UInt8} : DD (a ++ b) ↔ DD a ∧ DD b := by
  unfold DD
  constructor
  · intro h; exact ⟨fun d hd => h d (List.mem_append.2 (.inl hd)), fun d hd => h d (List.mem_append.2 (.inr hd))⟩
  · rintro ⟨h1, h2⟩ d hd
    rcases List.mem_append.1 hd with h | h
    · exact h1 d h
    · exact h2 d h
theorem dd_getD {l : List UInt8} (h : DD l) (i : Nat) (hi : i < l.length) : 48 ≤ (l.getD i 0).toNat ∧ (l.getD i 0).toNat ≤ 57 := by
  rw [List.getD_eq_getElem?_getD, List.getElem?_eq_getElem hi]
  exact h _ (List.getElem_mem hi)
/-- What decimal digits mean. -/
def num (l : List UInt8) : Nat := l.foldl (fun a d => 10 * a + (d.toNat - 48)) 0
theorem num_from (l : List UInt8) (a : Nat) : l.foldl (fun a d => 10 * a + (d.toNat - 48)) a = a * 10 ^ l.length + num l := by
  induction l generalizing a with
  | nil => simp [num]
  | cons d l ih =>
    have e : num (d :: l) = (10 * 0 + (d.toNat - 48)) * 10 ^ l.length + num l := by
      show List.foldl _ 0 (d :: l) = _
      rw [List.foldl_cons, ih]
    rw [List.foldl_cons, ih, e, List.length_cons, Nat.pow_succ]
    grind
theorem num_append (a b : List UInt8) : num (a ++ b) = num a * 10 ^ b.length + num b := by
  rw [num, List.foldl_append, num_from]; rfl
theorem num_nil : num [] = 0 := rfl
theorem num_one (d : UInt8) : num [d] = d.toNat - 48 := by simp [num]
theorem num_take (l : List UInt8) (t : Nat) (h : t < l.length) : num (l.take (t + 1)) = 10 * num (l.take t) + ((l.getD t 0).toNat - 48) := by
  rw [List.take_succ_eq_append_getElem h, num_append, num_one, List.getD_eq_getElem?_getD, List.getElem?_eq_getElem h, List.length_singleton, Nat.pow_one, Nat.mul_comm]
  rfl
theorem num_lt {l : List UInt8} (h : DD l) : num l < 10 ^ l.length := by
  induction l with
  | nil => simp [num]
  | cons d l ih =>
    have h1 := ih (fun x hx => h x (List.mem_cons_of_mem _ hx))
    have h2 := h d List.mem_cons_self
    rw [show d :: l = [d] ++ l from rfl, num_append, num_one, List.length_append, List.length_singleton, Nat.add_comm 1, Nat.pow_succ]
    have h3 : (d.toNat - 48) * 10 ^ l.length ≤ 9 * 10 ^ l.length := Nat.mul_le_mul_right _ (by omega)
    omega
theorem num_split (l : List UInt8) (n : Nat) (h : n ≤ l.length) : num l = num (l.take n) * 10 ^ (l.length - n) + num (l.drop n) := by
  have := num_append (l.take n) (l.drop n)
  rw [List.take_append_drop, List.length_drop] at this
  exact this
theorem bl_num {l : List UInt8} (h : DD l) : bl (num l) ≤ 4 * l.length := by
  refine bl_le_of (Nat.lt_of_lt_of_le (num_lt h) ?_)
  rw [Nat.pow_mul]
  exact Nat.pow_le_pow_left (by decide) _
theorem words_num {l : List UInt8} (h : DD l) : (words (num l)).length ≤ l.length / 8 + 1 := by
  refine words_len_bl (Nat.le_trans (bl_num h) (by omega))
theorem num_rep (n : Nat) : num (49 :: List.replicate n 48) = 10 ^ n := by
  rw [show (49 : UInt8) :: List.replicate n 48 = [49] ++ List.replicate n 48 from rfl, num_append, List.length_replicate]
  have h : ∀ n, num (List.replicate n 48) = 0 := by
    intro n
    induction n with
    | zero => rfl
    | succ n ih => rw [List.replicate_succ, show (48 : UInt8) :: List.replicate n 48 = [48] ++ List.replicate n 48 from rfl, num_append, ih, num_one]; simp
  rw [h]
  show 1 * _ + 0 = _
  rw [Nat.one_mul, Nat.add_zero]
theorem dd_rep (n : Nat) : DD (49 :: List.replicate n 48) := by
  intro d hd
  rcases List.mem_cons.1 hd with h | h
  · subst h; decide
  · rw [List.mem_replicate] at h; rw [h.2]; decide

section
variable {P : Program}
theorem idx_str (t : TypeId) (ht : P.underlying t = some .string) (l : List UInt8) (i : Nat) (hi : i < l.length) (X : Int) (hX : X = ((l.getD i 0).toNat : Int)) :
    ∀ w, (Instr.index t (.string (S l)) (.int .i64 (i : Int))).run P w = .ok (.int .u8 X) w := by
  intro w
  rw [run_index_string w t (S l) .i64 i ht, dif_pos ⟨by omega, by rw [S_size]; omega⟩]
  subst hX
  have : (S l)[((i : Int)).toNat]'(by rw [S_size]; omega) = l.getD i 0 := by
    rw [List.getD_eq_getElem?_getD, List.getElem?_eq_getElem hi]
    simp [S, ByteArray.getElem_eq_getElem_data]
  rw [this]
end
end Bob
end

section
/- Go's bits of a float's word as sums and rests. -/
namespace Bob
open Go
set_option linter.unusedVariables false

theorem f_abs (a : Nat) (h : a < 18446744073709551616) : bits .andNot .u64 (a : Int) 9223372036854775808 = ((a % 9223372036854775808 : Nat) : Int) := by
  have := u64_andNot_nat a 9223372036854775808 h (by decide)
  rw [show ((9223372036854775808 : Nat) : Int) = 9223372036854775808 from rfl] at this
  rw [this, show (18446744073709551615 - 9223372036854775808 : Nat) = 2 ^ 63 - 1 from rfl, Nat.and_two_pow_sub_one_eq_mod]
theorem f_frac (a : Nat) (h : a < 18446744073709551616) : bits .and .u64 (a : Int) 4503599627370495 = ((a % 4503599627370496 : Nat) : Int) := by
  have := u64_and_nat a 4503599627370495 h (by decide)
  rw [show ((4503599627370495 : Nat) : Int) = 4503599627370495 from rfl] at this
  rw [this, show (4503599627370495 : Nat) = 2 ^ 52 - 1 from rfl, Nat.and_two_pow_sub_one_eq_mod]
theorem f_exp (a : Nat) (h : a < 18446744073709551616) : bits .and .u64 (a : Int) 2047 = ((a % 2048 : Nat) : Int) := by
  have := u64_and_nat a 2047 h (by decide)
  rw [show ((2047 : Nat) : Int) = 2047 from rfl] at this
  rw [this, show (2047 : Nat) = 2 ^ 11 - 1 from rfl, Nat.and_two_pow_sub_one_eq_mod]
theorem and_top (a : Nat) (h : a < 18446744073709551616) : a &&& 9223372036854775808 = if 9223372036854775808 ≤ a then 9223372036854775808 else 0 := by
  apply Nat.eq_of_testBit_eq
  intro i
  rw [Nat.testBit_and, show (9223372036854775808 : Nat) = 2 ^ 63 from rfl, Nat.testBit_two_pow]
  by_cases hi : 63 = i
  · subst hi
    split
    · rename_i hle
      rw [Nat.testBit_two_pow, show a.testBit 63 = true by rw [Nat.testBit_eq_decide_div_mod_eq]; simp; omega]
      rfl
    · rename_i hle
      rw [Nat.zero_testBit, show a.testBit 63 = false by rw [Nat.testBit_eq_decide_div_mod_eq]; simp; omega]
      rfl
  · rw [decide_eq_false hi, Bool.and_false]
    split
    · rw [Nat.testBit_two_pow, decide_eq_false hi]
    · rw [Nat.zero_testBit]
theorem f_sign (a : Nat) (h : a < 18446744073709551616) : bits .and .u64 (a : Int) 9223372036854775808 = if 9223372036854775808 ≤ a then 9223372036854775808 else 0 := by
  have := u64_and_nat a 9223372036854775808 h (by decide)
  rw [show ((9223372036854775808 : Nat) : Int) = 9223372036854775808 from rfl] at this
  rw [this, and_top a h]
  split <;> rfl
theorem f_hidden (a : Nat) (h : a < 4503599627370496) : bits .or .u64 (a : Int) 4503599627370496 = ((a + 4503599627370496 : Nat) : Int) := by
  have := u64_or_low (a := 1) (b := a) (s := 52) (by omega) (by omega)
  rw [show ((2 ^ 52 * 1 : Nat) : Int) = 4503599627370496 from rfl] at this
  rw [this]; omega
end Bob
end
