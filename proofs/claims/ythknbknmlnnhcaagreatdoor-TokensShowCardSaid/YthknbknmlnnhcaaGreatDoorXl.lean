/- Walks: decimal.shown, Science; bobbinref4 odd, some, Science. -/
import Derived.Test.YthknbknmlnnhcaaGreatDoorXk
namespace Go.Proofs.YthknbknmlnnhcaaGreatDoor
open Go.RowKit Go.Proofs.YthknbknmlnnhcaaGreatDoorW.PrintWords Bob
set_option linter.unusedVariables false
set_option linter.unusedSimpArgs false

def clampN (n : Int) : Nat := (min (max n 1) 17).toNat
theorem clampN_in (n : Int) : 1 ≤ clampN n ∧ clampN n ≤ 17 := by unfold clampN; omega
/-- What is no number. -/
def oddL (a : Nat) : List UInt8 := if a = 9218868437227405312 then [73, 110, 102] else if a = 18442240474082181120 then [45, 73, 110, 102] else [78, 97, 78]
/-- A sign ahead of a text; or what is no number. -/
def shownS (a : Nat) (body : List UInt8) : List UInt8 := if fFin a then (if fNeg a then 45 :: body else body) else oddL a
theorem oddL_len (a : Nat) : (oddL a).length ≤ 4 ∧ 3 ≤ (oddL a).length := by unfold oddL; split; decide; split <;> decide

theorem neg_any (w : World) (a : Nat) (h : a = 9218868437227405312) : Calls Tryz.prog 116 #[.int .u64 9218868437227405312] w fun e w' => e = .returned (.int .u64 18442240474082181120) ∧ w' = w := by
  have hx : bits .xor .u64 9218868437227405312 9223372036854775808 = 18442240474082181120 := by decide
  have h1 := isNaN_any w 9218868437227405312 (by decide)
  rw [show decide (9218868437227405312 < 9218868437227405312 % 9223372036854775808) = false by decide] at h1
  go_enter Tryz.func116, Tryz.ntmps116
  go_wp2_with fail
  refine h1.mono ?_
  rintro e w1 ⟨rfl, rfl⟩
  go_wp2_with fail
  go_ret
  exact ⟨rfl, rfl⟩

theorem sciL_len (d : List UInt8) (x : Int) (hd : d.length ≤ 100) (h0 : -100000 ≤ x) (h1 : x ≤ 100000) : (sciL d x).length ≤ 200 := by
  have := itoa_len x (by omega) (by omega)
  unfold sciL
  simp
  omega

set_option maxRecDepth 100000 in
set_option maxHeartbeats 2000000 in
theorem shown62_any (w : World) (a : Nat) (n : Int) (h : a < 18446744073709551616) (ht : Tab w) :
    Calls Tryz.prog 55 #[.int .u64 (a : Int), .int .i64 n, .func (.func 62) #[] #[]] w fun e w' => e = .returned (.string (S (shownS a (sciL (repT a (clampN n)) (if decide (fM a = 0) then 0 else repX a (clampN n) - 1))))) ∧ Below w.heap.size w w' := by
  have H := Aside0.mk h
  have HT := Aside0.mk ht
  obtain ⟨k, hk⟩ : ∃ k, k = clampN n := ⟨_, rfl⟩
  have hk1 := (clampN_in n).1
  have hk2 := (clampN_in n).2
  obtain ⟨m, hm⟩ : ∃ m : Int, max n 1 = m := ⟨_, rfl⟩
  have hmk : min m 17 = (k : Int) := by rw [hk, ← hm]; unfold clampN; omega
  rw [← hk] at hk1 hk2 ⊢
  clear h ht hk
  by_cases hf : fFin a
  · have HS := Aside0.mk (show repN a k = fNeg a ∧ repE a k = 0 by
      have hc : ¬ ((k : Int) < 1 ∨ 40 < (k : Int) ∨ ¬ fFin a) := by
        rintro (h | h | h)
        · omega
        · omega
        · exact h hf
      unfold repN repE
      exact ⟨if_neg hc, if_neg hc⟩)
    obtain ⟨z, hz⟩ : ∃ z, z = decide (fM a = 0) := ⟨_, rfl⟩
    have hlen := repT_length a k hf hk1 (by omega)
    have hidx : ∀ w, (Instr.index 9 (.string (S (repT a k))) (.int .i64 0)).run Tryz.prog w = .ok (.int .u8 (((repT a k).getD 0 0).toNat : Int)) w := idx_str (P := Tryz.prog) 9 Tryz.underlying9 (repT a k) 0 (by omega) _ rfl
    have hX : ((((repT a k).getD 0 0).toNat : Int) == 48) = z := by
      have h1 := repT_head a k hf hk1 (by omega)
      rw [hz, Bool.eq_iff_iff, beq_iff_eq, decide_eq_true_iff, ← h1]
      constructor
      · intro h
        exact UInt8.toNat_inj.1 (by show _ = 48; omega)
      · intro h
        rw [h]; rfl
    generalize (((repT a k).getD 0 0).toNat : Int) = X at hidx hX
    have hxb := repX_bound a k
    have HBL := Aside0.mk (show (sciL (repT a k) (if decide (fM a = 0) then 0 else repX a k - 1)).length ≤ 1000 by exact Nat.le_trans (sciL_len _ _ (by omega) (by split <;> omega) (by split <;> omega)) (by decide))
    rw [show shownS a (sciL (repT a k) (if decide (fM a = 0) then 0 else repX a k - 1)) = (if fNeg a then 45 :: (sciL (repT a k) (if decide (fM a = 0) then 0 else repX a k - 1)) else sciL (repT a k) (if decide (fM a = 0) then 0 else repX a k - 1)) by unfold shownS; rw [if_pos hf]]
    rw [← hz] at HBL ⊢
    obtain ⟨T, hT⟩ : ∃ T, T = repT a k := ⟨_, rfl⟩
    obtain ⟨x, hx⟩ : ∃ x, x = repX a k := ⟨_, rfl⟩
    have HRE : Aside0 (∀ W, Calls Tryz.prog 16 #[.int .u64 (a : Int), .int .i64 (k : Int)] W fun e w' => e = .returned (.tuple #[.agg #[.string (S T), .int .i64 x, .bool (fNeg a)], .int .i64 0]) ∧ Below W.heap.size W w') := ⟨fun W => by
      have := represent_any W a k H.out
      unfold RetRep at this
      rw [HS.out.1, HS.out.2, ← hT, ← hx] at this
      exact this⟩
    rw [← hT] at hlen hidx HBL ⊢
    rw [← hx] at hxb HBL ⊢
    have HLN := Aside0.mk hlen
    have HXB := Aside0.mk hxb
    have HP : Aside0 (∀ W, Tab W → Calls Tryz.prog 62 #[.string (S T), .int .i64 x, .int .i64 (k : Int), .bool z] W fun y w' => y = .returned (.string (S (sciL T (if z then 0 else x - 1)))) ∧ Below W.heap.size W w') := ⟨fun W hW => sci_part W T x k z (by have := HLN.out; omega) (by have := HLN.out; omega) (by have := HXB.out; omega) (by have := HXB.out; omega) hW⟩
    obtain ⟨B, hB⟩ : ∃ B, B = sciL T (if z then 0 else x - 1) := ⟨_, rfl⟩
    rw [← hB] at HP HBL ⊢
    clear hB
    obtain ⟨sT, hsT⟩ : ∃ sT, sT = S T := ⟨_, rfl⟩
    rw [← hsT] at HP
    rw [← hsT] at hidx HRE
    have HST := Aside0.mk hsT
    obtain ⟨s, hs⟩ : ∃ s, s = fNeg a := ⟨_, rfl⟩
    rw [← hs] at HRE ⊢
    clear hT hx hlen hxb hz hsT hs HS hf
    go_enter Tryz.func55, Tryz.ntmps55
    go_wp2_with fail
    refine (HRE.out _).mono ?_
    rintro e w1 ⟨rfl, hb1⟩
    have HB1 := Aside0.mk hb1
    clear hb1
    have c0 := (new_at w1 #[.string sT, .int .i64 x, .bool s] 33 0).1
    have c1 := (new_at w1 #[.string sT, .int .i64 x, .bool s] 33 1).1
    have c2 := (new_at w1 #[.string sT, .int .i64 x, .bool s] 33 2).1
    go_wp2_with fail
    obtain ⟨W, hW⟩ : ∃ W, W = w1.alloc (.cells #[.string sT, .int .i64 x, .bool s] 33) := ⟨_, rfl⟩
    obtain ⟨g, hg⟩ : ∃ g, g = w1.heap.size := ⟨_, rfl⟩
    have HBW := Aside0.mk (show Below w.heap.size w W by rw [hW]; exact below_alloc HB1.out _)
    have hgW : g < W.heap.size := by rw [hW, hg]; simp
    have HTW := Aside0.mk (HT.out.below HBW.out)
    rw [← hW, ← hg] at c0 c1 c2 ⊢
    clear hW hg
    have k0 : W.cell? ⟨g, 0, none⟩ = some (.string sT) := c0
    have k1 : W.cell? ⟨g, 1, none⟩ = some (.int .i64 x) := c1
    have k2 : W.cell? ⟨g, 2, none⟩ = some (.bool s) := c2
    clear c0 c1 c2
    go_region_held3 (fun w' => w'.cell? ⟨g, 0, none⟩ = some (.string sT) ∧ w'.cell? ⟨g, 1, none⟩ = some (.int .i64 x) ∧ w'.cell? ⟨g, 2, none⟩ = some (.bool s)) (first | go_keep | (refine ⟨(hb2.cell (p := ⟨g, 0, none⟩) hgW).trans k0, (hb2.cell (p := ⟨g, 1, none⟩) hgW).trans k1, (hb2.cell (p := ⟨g, 2, none⟩) hgW).trans k2⟩))
      (first
        | (go_at_call 62; refine (HP.out _ ?_).mono ?_; (first | exact HTW.out | exact HTW.out.below (Below.drew (Below.refl _ _))); rintro y w2 ⟨rfl, hb2⟩))
    obtain ⟨q0, q1, q2⟩ : w2.cell? ⟨g, 0, none⟩ = some (.string sT) ∧ w2.cell? ⟨g, 1, none⟩ = some (.int .i64 x) ∧ w2.cell? ⟨g, 2, none⟩ = some (.bool s) := by assumption
    have hcat : ({ data := #[45] } : ByteArray) ++ S B = S (45 :: B) := S_cat [45] B
    have hsz : (S B).size ≤ 1000 := by rw [S_size]; exact HBL.out
    have HB2 := Aside0.mk (HBW.out.trans (((Below.drew (Below.refl W.heap.size W)).trans hb2).mono HBW.out.size))
    obtain ⟨sB, hsB⟩ : ∃ sB, sB = S B := ⟨_, rfl⟩
    rw [← hsB] at hcat hsz ⊢
    have HSB := Aside0.mk hsB
    clear hb2 hsB
    cases s with
    | true =>
      go_wp2_with fail
      go_ret
      exact ⟨rfl, HB2.out⟩
    | false =>
      go_wp2_with fail
      go_ret
      exact ⟨by rw [HSB.out]; rfl, HB2.out⟩
  · have HS := Aside0.mk (show repT a k = [] ∧ repX a k = 0 ∧ repN a k = false ∧ repE a k = 1 by simp [repT, repX, repN, repE, hf])
    rw [show shownS a (sciL (repT a k) (if decide (fM a = 0) then 0 else repX a k - 1)) = oddL a by unfold shownS; rw [if_neg hf]]
    have HRE : Aside0 (∀ W, Calls Tryz.prog 16 #[.int .u64 (a : Int), .int .i64 (k : Int)] W fun e w' => e = .returned (.tuple #[.agg #[.string (S []), .int .i64 0, .bool false], .int .i64 1]) ∧ Below W.heap.size W w') := ⟨fun W => by
      have := represent_any W a k H.out
      unfold RetRep at this
      obtain ⟨e1, e2, e3, e4⟩ := HS.out
      rw [e1, e2, e3, e4] at this
      exact this⟩
    by_cases hi : a = 9218868437227405312
    · have HO := Aside0.mk (show oddL a = [73, 110, 102] by unfold oddL; rw [if_pos hi])
      subst hi
      clear HS hf
      go_enter Tryz.func55, Tryz.ntmps55
      go_wp2_with fail
      refine (HRE.out _).mono ?_
      rintro e w1 ⟨rfl, hb1⟩
      have HB1 := Aside0.mk hb1
      clear hb1
      go_wp2_with fail
      go_ret
      exact ⟨by rw [HO.out]; rfl, below_alloc HB1.out _⟩
    · have hne : ((a : Int) == 9218868437227405312) = false := beq_eq_false_iff_ne.2 (by omega)
      have HNEG : Aside0 (∀ W, Calls Tryz.prog 116 #[.int .u64 9218868437227405312] W fun e w' => e = .returned (.int .u64 18442240474082181120) ∧ w' = W) := ⟨fun W => neg_any W _ rfl⟩
      by_cases hm2 : a = 18442240474082181120
      · have HO := Aside0.mk (show oddL a = [45, 73, 110, 102] by unfold oddL; rw [if_neg hi, if_pos hm2])
        have heq : ((a : Int) == 18442240474082181120) = true := by rw [hm2]; rfl
        clear HS hf hi hm2
        go_enter Tryz.func55, Tryz.ntmps55
        go_wp2_with fail
        refine (HRE.out _).mono ?_
        rintro e w1 ⟨rfl, hb1⟩
        have HB1 := Aside0.mk hb1
        clear hb1
        go_wp2_with fail
        refine (HNEG.out _).mono ?_
        rintro e w2 ⟨rfl, rfl⟩
        go_wp2_with fail
        go_ret
        exact ⟨by rw [HO.out]; rfl, below_alloc HB1.out _⟩
      · have HO := Aside0.mk (show oddL a = [78, 97, 78] by unfold oddL; rw [if_neg hi, if_neg hm2])
        have heq : ((a : Int) == 18442240474082181120) = false := beq_eq_false_iff_ne.2 (by omega)
        clear HS hf hi hm2
        go_enter Tryz.func55, Tryz.ntmps55
        go_wp2_with fail
        refine (HRE.out _).mono ?_
        rintro e w1 ⟨rfl, hb1⟩
        have HB1 := Aside0.mk hb1
        clear hb1
        go_wp2_with fail
        refine (HNEG.out _).mono ?_
        rintro e w2 ⟨rfl, rfl⟩
        go_wp2_with fail
        go_ret
        exact ⟨by rw [HO.out]; rfl, below_alloc HB1.out _⟩

/-- Science's text. -/
noncomputable def sciS (a : Nat) (n : Int) : List UInt8 := shownS a (sciL (repT a (clampN n)) (if decide (fM a = 0) then 0 else repX a (clampN n) - 1))
theorem science_any (w : World) (a : Nat) (n : Int) (h : a < 18446744073709551616) (ht : Tab w) :
    Calls Tryz.prog 22 #[.int .u64 (a : Int), .int .i64 n] w fun e w' => e = .returned (.string (S (sciS a n))) ∧ Below w.heap.size w w' := by
  have H := Aside0.mk (show Calls Tryz.prog 55 #[.int .u64 (a : Int), .int .i64 n, .func (.func 62) #[] #[]] w fun e w' => e = .returned (.string (S (sciS a n))) ∧ Below w.heap.size w w' from shown62_any w a n h ht)
  generalize S (sciS a n) = U at *
  go_enter Tryz.func22, Tryz.ntmps22
  go_wp2_with fail
  refine H.out.mono ?_
  rintro e w1 ⟨rfl, hb⟩
  go_wp2_with fail
  go_ret
  exact ⟨rfl, hb⟩

theorem odd_any (w : World) (a : Nat) (h : a < 18446744073709551616) : Calls Tryz.prog 59 #[.int .u64 (a : Int)] w fun e w' => e = .returned (.string (S (if fFin a then [] else oddL a))) ∧ w' = w := by
  have H1 := Aside0.mk (rIsNaN_any w a h)
  have H2 := Aside0.mk (rIsInf_any w a h)
  by_cases h1 : 9218868437227405312 < a % 9223372036854775808
  · have HS := Aside0.mk (show (if fFin a then [] else oddL a) = [78, 97, 78] by
      rw [if_neg (by unfold fFin; omega)]
      unfold oddL; rw [if_neg (by omega), if_neg (by omega)])
    rw [decide_eq_true h1] at H1
    rw [HS.out]
    clear h1 h
    go_enter Tryz.func59, Tryz.ntmps59
    go_wp2_with fail
    refine H1.out.mono ?_
    rintro e w1 ⟨rfl, rfl⟩
    go_wp2_with fail
    go_ret
    exact ⟨rfl, rfl⟩
  · rw [decide_eq_false h1] at H1
    by_cases h2 : a = 9218868437227405312
    · have HS := Aside0.mk (show (if fFin a then [] else oddL a) = [73, 110, 102] by
        rw [if_neg (by unfold fFin; omega)]
        unfold oddL; rw [if_pos h2])
      rw [HS.out]
      have he : ((a : Int) == 9218868437227405312) = true := by rw [h2]; rfl
      clear h1 h h2
      go_enter Tryz.func59, Tryz.ntmps59
      go_wp2_with fail
      refine H1.out.mono ?_
      rintro e w1 ⟨rfl, rfl⟩
      go_wp2_with fail
      go_ret
      exact ⟨rfl, rfl⟩
    · have he : ((a : Int) == 9218868437227405312) = false := beq_eq_false_iff_ne.2 (by omega)
      by_cases h3 : a % 9223372036854775808 = 9218868437227405312
      · have HS := Aside0.mk (show (if fFin a then [] else oddL a) = [45, 73, 110, 102] by
          rw [if_neg (by unfold fFin; omega)]
          unfold oddL; rw [if_neg h2, if_pos (by omega)])
        rw [HS.out]
        rw [decide_eq_true h3] at H2
        clear h1 h h2 h3
        go_enter Tryz.func59, Tryz.ntmps59
        go_wp2_with fail
        refine H1.out.mono ?_
        rintro e w1 ⟨rfl, rfl⟩
        go_wp2_with fail
        refine H2.out.mono ?_
        rintro e w1 ⟨rfl, rfl⟩
        go_wp2_with fail
        go_ret
        exact ⟨rfl, rfl⟩
      · have HS := Aside0.mk (show (if fFin a then [] else oddL a) = [] by
          rw [if_pos (by unfold fFin; omega)])
        rw [HS.out]
        rw [decide_eq_false h3] at H2
        clear h1 h h2 h3
        go_enter Tryz.func59, Tryz.ntmps59
        go_wp2_with fail
        refine H1.out.mono ?_
        rintro e w1 ⟨rfl, rfl⟩
        go_wp2_with fail
        refine H2.out.mono ?_
        rintro e w1 ⟨rfl, rfl⟩
        go_wp2_with fail
        go_ret
        exact ⟨rfl, rfl⟩

theorem add_run (a b : List UInt8) (h : a.length + b.length ≤ 1000000) : ∀ w, (Op.stringOp .add (S a) (S b)).run Tryz.prog w = .ok (.string (S (a ++ b))) w := fun w => by
  rw [run_string_add_sum w (S a) (S b) (by rw [S_size, S_size]; omega), S_cat]
/-- The sign's text. -/
def sgnL (a : Nat) : List UInt8 := if fNeg a then [45] else []

set_option maxRecDepth 100000 in
set_option maxHeartbeats 800000 in
theorem some_any (w : World) (a : Nat) (n : Int) (h : a < 18446744073709551616) (hf : fFin a) :
    Calls Tryz.prog 60 #[.int .u64 (a : Int), .int .i64 n] w fun e w' => e = .returned (.tuple #[.string (S (repT a (clampN n))), .int .i64 (repX a (clampN n)), .string (S (sgnL a))]) ∧ Below w.heap.size w w' := by
  obtain ⟨k, hk⟩ : ∃ k, k = clampN n := ⟨_, rfl⟩
  have hk1 := (clampN_in n).1
  have hk2 := (clampN_in n).2
  have HS := Aside0.mk (show repN a k = fNeg a ∧ repE a k = 0 by
      have hc : ¬ ((k : Int) < 1 ∨ 40 < (k : Int) ∨ ¬ fFin a) := by
        rintro (h | h | h)
        · omega
        · omega
        · exact h hf
      unfold repN repE
      exact ⟨if_neg hc, if_neg hc⟩)
  rw [← hk]
  obtain ⟨T, hT⟩ : ∃ T, T = S (repT a k) := ⟨_, rfl⟩
  obtain ⟨x, hx⟩ : ∃ x, x = repX a k := ⟨_, rfl⟩
  obtain ⟨s, hs⟩ : ∃ s, s = fNeg a := ⟨_, rfl⟩
  have HRE : Aside0 (∀ W, Calls Tryz.prog 17 #[.int .u64 (a : Int), .int .i64 (k : Int)] W fun e w' => e = .returned (.tuple #[.agg #[.string T, .int .i64 x, .bool s], .int .i64 0]) ∧ Below W.heap.size W w') := ⟨fun W => by
    have := rrepresent_any W a k h
    unfold RetRep at this
    rw [HS.out.1, HS.out.2, ← hT, ← hx, ← hs] at this
    exact this⟩
  rw [← hT, ← hx, show sgnL a = if s then [45] else [] by unfold sgnL; rw [hs]]
  clear hT hx hs HS hk1 hk2
  rcases (by unfold clampN at hk; omega : (n < 1 ∧ k = 1) ∨ (1 ≤ n ∧ n ≤ 17 ∧ n = (k : Int)) ∨ (17 < n ∧ k = 17)) with ⟨h1, rfl⟩ | ⟨h1, h2, rfl⟩ | ⟨h1, rfl⟩
  · clear hk
    go_enter Tryz.func60, Tryz.ntmps60
    go_wp2_with fail
    refine (HRE.out _).mono ?_
    rintro e w1 ⟨rfl, hb1⟩
    have HB1 := Aside0.mk hb1
    clear hb1
    have k0 : (w1.alloc (.cells #[.string T, .int .i64 x, .bool s] 33)).cell? ⟨w1.heap.size, 0, none⟩ = some (.string T) := (new_at w1 _ 33 0).1
    have k1 : (w1.alloc (.cells #[.string T, .int .i64 x, .bool s] 33)).cell? ⟨w1.heap.size, 1, none⟩ = some (.int .i64 x) := (new_at w1 _ 33 1).1
    have k2 : (w1.alloc (.cells #[.string T, .int .i64 x, .bool s] 33)).cell? ⟨w1.heap.size, 2, none⟩ = some (.bool s) := (new_at w1 _ 33 2).1
    cases s with
    | true =>
      go_wp2_with fail
      go_quiet (fail)
      go_wp2_with fail
      exact bodyPost_ret (v := .tuple #[.string T, .int .i64 x, .string { data := #[45] }]) (by simp [results, Tryz.results60, go_sem]) rfl ⟨rfl, (by repeat first | exact below_alloc HB1.out _ | apply pw_below_drewN)⟩
    | false =>
      go_wp2_with fail
      go_quiet (fail)
      go_wp2_with fail
      exact bodyPost_ret (v := .tuple #[.string T, .int .i64 x, .string { data := #[] }]) (by simp [results, Tryz.results60, go_sem]) rfl ⟨rfl, (by repeat first | exact below_alloc HB1.out _ | apply pw_below_drewN)⟩
  · clear hk
    go_enter Tryz.func60, Tryz.ntmps60
    go_wp2_with fail
    refine (HRE.out _).mono ?_
    rintro e w1 ⟨rfl, hb1⟩
    have HB1 := Aside0.mk hb1
    clear hb1
    have k0 : (w1.alloc (.cells #[.string T, .int .i64 x, .bool s] 33)).cell? ⟨w1.heap.size, 0, none⟩ = some (.string T) := (new_at w1 _ 33 0).1
    have k1 : (w1.alloc (.cells #[.string T, .int .i64 x, .bool s] 33)).cell? ⟨w1.heap.size, 1, none⟩ = some (.int .i64 x) := (new_at w1 _ 33 1).1
    have k2 : (w1.alloc (.cells #[.string T, .int .i64 x, .bool s] 33)).cell? ⟨w1.heap.size, 2, none⟩ = some (.bool s) := (new_at w1 _ 33 2).1
    cases s with
    | true =>
      go_wp2_with fail
      go_quiet (fail)
      go_wp2_with fail
      exact bodyPost_ret (v := .tuple #[.string T, .int .i64 x, .string { data := #[45] }]) (by simp [results, Tryz.results60, go_sem]) rfl ⟨rfl, (by repeat first | exact below_alloc HB1.out _ | apply pw_below_drewN)⟩
    | false =>
      go_wp2_with fail
      go_quiet (fail)
      go_wp2_with fail
      exact bodyPost_ret (v := .tuple #[.string T, .int .i64 x, .string { data := #[] }]) (by simp [results, Tryz.results60, go_sem]) rfl ⟨rfl, (by repeat first | exact below_alloc HB1.out _ | apply pw_below_drewN)⟩
  · clear hk
    go_enter Tryz.func60, Tryz.ntmps60
    go_wp2_with fail
    refine (HRE.out _).mono ?_
    rintro e w1 ⟨rfl, hb1⟩
    have HB1 := Aside0.mk hb1
    clear hb1
    have k0 : (w1.alloc (.cells #[.string T, .int .i64 x, .bool s] 33)).cell? ⟨w1.heap.size, 0, none⟩ = some (.string T) := (new_at w1 _ 33 0).1
    have k1 : (w1.alloc (.cells #[.string T, .int .i64 x, .bool s] 33)).cell? ⟨w1.heap.size, 1, none⟩ = some (.int .i64 x) := (new_at w1 _ 33 1).1
    have k2 : (w1.alloc (.cells #[.string T, .int .i64 x, .bool s] 33)).cell? ⟨w1.heap.size, 2, none⟩ = some (.bool s) := (new_at w1 _ 33 2).1
    cases s with
    | true =>
      go_wp2_with fail
      go_quiet (fail)
      go_wp2_with fail
      exact bodyPost_ret (v := .tuple #[.string T, .int .i64 x, .string { data := #[45] }]) (by simp [results, Tryz.results60, go_sem]) rfl ⟨rfl, (by repeat first | exact below_alloc HB1.out _ | apply pw_below_drewN)⟩
    | false =>
      go_wp2_with fail
      go_quiet (fail)
      go_wp2_with fail
      exact bodyPost_ret (v := .tuple #[.string T, .int .i64 x, .string { data := #[] }]) (by simp [results, Tryz.results60, go_sem]) rfl ⟨rfl, (by repeat first | exact below_alloc HB1.out _ | apply pw_below_drewN)⟩

set_option maxRecDepth 100000 in
set_option maxHeartbeats 800000 in
theorem rscience_any (w : World) (a : Nat) (n : Int) (h : a < 18446744073709551616) :
    Calls Tryz.prog 23 #[.int .u64 (a : Int), .int .i64 n] w fun e w' => e = .returned (.string (S (sciS a n))) ∧ Below w.heap.size w w' := by
  have HO := Aside0.mk (odd_any w a h)
  by_cases hf : fFin a
  · rw [if_pos hf, show S [] = ({ data := #[] } : ByteArray) from rfl] at HO
    obtain ⟨k, hk⟩ : ∃ k, k = clampN n := ⟨_, rfl⟩
    have hk1 := (clampN_in n).1
    have hk2 := (clampN_in n).2
    rw [← hk] at hk1 hk2
    have hlen := repT_length a k hf hk1 (by omega)
    have hxb := repX_bound a k
    obtain ⟨z, hz⟩ : ∃ z, z = decide (fM a = 0) := ⟨_, rfl⟩
    have hz2 : decide (a % 9223372036854775808 = 0) = z := by
      rw [hz, decide_eq_decide]
      unfold fM fx
      unfold fFin at hf
      split <;> omega
    rw [show sciS a n = sgnL a ++ sciL (repT a k) (if z then 0 else repX a k - 1) by
      unfold sciS shownS sgnL
      rw [if_pos hf, ← hk, ← hz]
      split <;> rfl]
    have HSO := Aside0.mk (fun W => some_any W a n h hf)
    rw [← hk] at HSO
    have HIZ := Aside0.mk (fun W => rIsZero_any W a h)
    rw [hz2] at HIZ
    obtain ⟨T, hT⟩ : ∃ T, T = repT a k := ⟨_, rfl⟩
    obtain ⟨x, hx⟩ : ∃ x, x = repX a k := ⟨_, rfl⟩
    rw [← hT] at hlen HSO ⊢
    rw [← hx] at hxb HSO ⊢
    obtain ⟨G, hG⟩ : ∃ G, G = sgnL a := ⟨_, rfl⟩
    have hG1 : G.length ≤ 1 := by rw [hG]; unfold sgnL; split <;> decide
    rw [← hG] at HSO ⊢
    obtain ⟨y, hy⟩ : ∃ y : Int, y = if z then 0 else x - 1 := ⟨_, rfl⟩
    have hyb : -1000 ≤ y ∧ y ≤ 1000 := by rw [hy]; split <;> omega
    have hil := itoa_len y (by omega) (by omega)
    rw [← hy]
    have hs1 : ∀ w, (Instr.slice 9 (.string (S T)) none (some (.int .i64 1)) none).run Tryz.prog w = .ok (.string (S (T.take 1))) w := slice_to T 1 (by omega)
    have hs2 : ∀ w, (Instr.slice 9 (.string (S T)) (some (.int .i64 1)) none none).run Tryz.prog w = .ok (.string (S (T.drop 1))) w := slice_from T 1 (by omega)
    have q1 := add_run G (T.take 1) (by simp; omega)
    have q2 : ∀ w, (Op.stringOp .add (S (G ++ T.take 1)) { data := #[46] }).run Tryz.prog w = .ok (.string (S (G ++ T.take 1 ++ [46]))) w := add_run _ [46] (by simp; omega)
    have q3 := add_run (G ++ T.take 1 ++ [46]) (T.drop 1) (by simp; omega)
    have q4 : ∀ w, (Op.stringOp .add (S (G ++ T.take 1 ++ [46] ++ T.drop 1)) { data := #[69] }).run Tryz.prog w = .ok (.string (S (G ++ T.take 1 ++ [46] ++ T.drop 1 ++ [69]))) w := add_run _ [69] (by simp; omega)
    have q5 := add_run (G ++ T.take 1 ++ [46] ++ T.drop 1 ++ [69]) (Lib.itoa y) (by simp; omega)
    rw [show G ++ T.take 1 ++ [46] ++ T.drop 1 ++ [69] ++ Lib.itoa y = G ++ sciL T y by simp [sciL]] at q5
    have HDC : Aside0 (∀ W, Calls Tryz.prog 64 #[.int .i64 y] W fun e w' => e = .returned (.string (S (Lib.itoa y))) ∧ Below W.heap.size W w') := ⟨fun W => decimal4_any W y (by omega) (by omega)⟩
    generalize S (G ++ sciL T y) = u5 at *
    generalize S (G ++ T.take 1 ++ [46] ++ T.drop 1 ++ [69]) = u4 at *
    generalize S (G ++ T.take 1 ++ [46] ++ T.drop 1) = u3 at *
    generalize S (G ++ T.take 1 ++ [46]) = u2 at *
    generalize S (G ++ T.take 1) = u1 at *
    generalize S (T.take 1) = s3 at *
    generalize S (T.drop 1) = s4 at *
    generalize S (Lib.itoa y) = s5 at *
    generalize S G = s0 at *
    generalize S T = sT at *
    clear hlen hil hG hG1 hT hx hk hk1 hk2 hz hz2 hf h
    cases z with
    | true =>
      obtain rfl : y = 0 := by rw [hy]; rfl
      clear hy
      go_enter Tryz.func23, Tryz.ntmps23
      go_wp2_with fail
      refine HO.out.mono ?_
      rintro e w1 ⟨rfl, rfl⟩
      go_wp2_with fail
      refine (HSO.out _).mono ?_
      rintro e w2 ⟨rfl, hb2⟩
      have HB2 := Aside0.mk hb2
      clear hb2
      go_wp2_with fail
      refine (HIZ.out _).mono ?_
      rintro e w3 ⟨rfl, rfl⟩
      go_wp2_with fail
      go_region_held3 (fun _ => True) (trivial)
        (first
          | (go_at_call 64; refine (HDC.out _).mono ?_; rintro y w4 ⟨rfl, hb4⟩))
      go_wp2_with fail
      go_ret
      exact ⟨rfl, HB2.out.trans (((Below.drew (Below.refl _ _)).trans hb4).mono HB2.out.size)⟩
    | false =>
      obtain rfl : y = x - 1 := by rw [hy]; rfl
      clear hy
      have hw1 : IntKind.i64.wrap (x - 1) = x - 1 := by rw [IntKind.wrap_i64]; omega
      have hw2 : wrap64 (x - 1) = x - 1 := by unfold wrap64; omega
      go_enter Tryz.func23, Tryz.ntmps23
      go_wp2_with fail
      refine HO.out.mono ?_
      rintro e w1 ⟨rfl, rfl⟩
      go_wp2_with fail
      refine (HSO.out _).mono ?_
      rintro e w2 ⟨rfl, hb2⟩
      have HB2 := Aside0.mk hb2
      clear hb2
      go_wp2_with fail
      refine (HIZ.out _).mono ?_
      rintro e w3 ⟨rfl, rfl⟩
      go_wp2_with fail
      go_region_held3 (fun _ => True) (trivial)
        (first
          | (go_at_call 64; refine (HDC.out _).mono ?_; rintro y w4 ⟨rfl, hb4⟩))
      go_wp2_with fail
      go_ret
      exact ⟨rfl, HB2.out.trans (((Below.drew (Below.refl _ _)).trans hb4).mono HB2.out.size)⟩
  · rw [if_neg hf] at HO
    rw [show sciS a n = oddL a by unfold sciS shownS; rw [if_neg hf]]
    have hl : (S (oddL a)).toList.isEmpty = false := S_toList_ne (by have := (oddL_len a).2; intro e; rw [e] at this; cases this)
    generalize S (oddL a) = U at *
    clear hf h
    go_enter Tryz.func23, Tryz.ntmps23
    go_wp2_with fail
    refine HO.out.mono ?_
    rintro e w1 ⟨rfl, rfl⟩
    go_wp2_with fail
    refine HO.out.mono ?_
    rintro e w2 ⟨rfl, rfl⟩
    go_wp2_with fail
    go_ret
    exact ⟨rfl, Below.refl _ _⟩

end Go.Proofs.YthknbknmlnnhcaaGreatDoor
