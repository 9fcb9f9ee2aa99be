/- Walks: tokens.Show, bobbinref15.Show. -/
import Derived.Test.YthknbknmlnnhcaaGreatDoorXm
namespace Go.Proofs.YthknbknmlnnhcaaGreatDoor
open Go.RowKit Go.Proofs.YthknbknmlnnhcaaGreatDoorW.PrintWords Bob
set_option linter.unusedVariables false
set_option linter.unusedSimpArgs false

/-- v is a row of strings that the call itself has made. -/
def OwS (w : World) (base : Nat) (v : Value) (l : List ByteArray) : Prop := Kd.string.R 9 w base (fun _ => True) v l
theorem info9 : (Tryz.prog.info? 9).map (fun i => (i.zero, i.size, i.bytes)) = some (some (.string { data := #[] }), 1, 16) := by kernel_rfl
theorem OwS.below {w w1 : World} {base : Nat} {v : Value} {l : List ByteArray} (h : OwS w base v l) (hb : Below w.heap.size w w1) : OwS w1 base v l := Kd.R_below h hb
theorem OwS.lit (W : World) (base : Nat) (l : List ByteArray) (hb : base ≤ W.heap.size) (hm : l.length ≤ 1000000) : OwS (W.alloc (.cells (encs Value.string l).toArray 9)) base (.slice (some ⟨W.heap.size, 0, none⟩) l.length l.length) l :=
  Kd.R_of_own (own_lit_of (enc := Value.string) W base 9 l hb (by omega)) (fun _ _ => trivial)
theorem OwS.form {w : World} {base : Nat} {v : Value} {l : List ByteArray} (h : OwS w base v l) (hp : 0 < l.length) : ∃ g cap, v = .slice (some ⟨g, 0, none⟩) l.length cap ∧ l.length ≤ cap ∧ g < w.heap.size ∧ ∀ (j : Nat) x, l[j]? = some x → w.cell? ⟨g, j, none⟩ = some (.string x) := by
  obtain ⟨g, cap, h1, h2, h3, h4⟩ := Kd.R_form h hp
  subst h1
  have hr := Kd.R_reads' h
  refine ⟨g, cap, rfl, hr.2.1, h3, fun j x hj => ?_⟩
  have hlt : j < l.length := by
    rcases Nat.lt_or_ge j l.length with h | h
    · exact h
    · rw [List.getElem?_eq_none h] at hj; cases hj
  obtain ⟨ad, e, hc⟩ := Kd.at_string hr.2.2 (j : Int) (by omega) (by omega)
  injection e with e
  subst e
  rw [Int.toNat_natCast, show (Addr.mk g 0 none).add j = ⟨g, j, none⟩ by unfold Addr.add; split <;> simp_all] at hc
  rw [hc]
  simp [rdOf, hj]
section
variable {ops : Array Oper} {rest : List Oper} {o : Oper} {a : Act} {Q : Exit → Act → World → Prop} {w0 W : World}
/-- append(s, x), s the call's own row of strings, one string. -/
theorem app_str (s x : Operand) (base : Nat) (hgd : o.guard = none) (ho : o.op = .call { callee := .builtin .append, args := #[s, x], argTypes := #[43, 43] })
    (v : Value) (xs : List ByteArray) (p : ByteArray) (hs : a.eval s = v) (hx : a.eval x = .slice (some ⟨W.heap.size, 0, none⟩) 1 1) (HO : OwS W base v xs) (HB : Below base w0 W) (hbase : base ≤ W.heap.size) (hl : xs.length ≤ 1000000)
    (h : ∀ v1 w1, OwS w1 base v1 (xs ++ [p]) → Below base w0 w1 → wpList Tryz.prog ops Q rest (a.put o.dst v1) w1) : wpList Tryz.prog ops Q (o :: rest) a (W.alloc (.cells #[.string p] 9)) :=
  Kd.R_append Kd.string base hgd s x 43 9 (.string { data := #[] }) 16 ho Tryz.underlying43 info9 rfl (by decide) (by omega) v xs p [.string p] (fun _ => True) (fun _ => False) hs hx rfl (fun _ h => h.elim) (fun _ _ => trivial) HO HB hbase (by omega) (fun v1 w1 h1 h2 _ _ => h v1 w1 h1 h2)
/-- append(s, x...) as one step of a region that draws its order. -/
theorem app_str_step {Kc : Act → World → Prop} (s x : Operand) (base : Nat) (hw : Region.wanted o (yielded ops a.tmps) = true) (ho : o.op = .call { callee := .builtin .append, args := #[s, x], argTypes := #[43, 43] })
    (v : Value) (xs ys : List ByteArray) (A : Option Addr) (m c : Nat) (hs : a.eval s = v) (hx : a.eval x = .slice A m c) (HO : OwS W base v xs) (HR : Kd.string.C W A m ys) (HB : Below base w0 W) (hbase : base ≤ W.heap.size) (hl : xs.length + m ≤ 1000000)
    (h : ∀ v1 w1, OwS w1 base v1 (xs ++ ys) → Below base w0 w1 → Kc (a.put o.dst v1) w1) : if Region.wanted o (yielded ops a.tmps) = true then Oper.wp Tryz.prog o a W Kc Q else Kc (a.put o.dst undef) W :=
  Kd.R_append_rows_step Kd.string base hw s x 43 9 (.string { data := #[] }) 16 ho Tryz.underlying43 info9 rfl (by decide) (by omega) v xs ys A m c (fun _ => True) (fun _ => False) hs hx HO HR (fun _ _ h => h) (fun _ h => h.elim) (fun _ _ => trivial) HB hbase (by omega) (fun v1 w1 h1 h2 _ _ => h v1 w1 h1 h2)
end

theorem join_own (w : World) (base : Nat) (v : Value) (L : List (List UInt8)) (sep : List UInt8) (h : OwS w base v (L.map S)) (hp : 0 < L.length) (hn : L.length ≤ 1000000) (hl : (Lib.join L sep).length ≤ 1000000) :
    Calls Tryz.prog 28 #[v, .string (S sep)] w fun e w' => e = .returned (.string (S (Lib.join L sep))) ∧ Below w.heap.size w w' := by
  obtain ⟨g, cap, rfl, hc, hg, hcell⟩ := h.form (by rw [List.length_map]; exact hp)
  rw [List.length_map] at hc ⊢
  exact join_row w g cap L sep hg hc hl hn (fun j x hj => hcell j (S x) (by rw [List.getElem?_map, hj]; rfl))
/-- A cell as a float's word. -/
def bitsOf (A : Int) : Nat := (A % 18446744073709551616).toNat
/-- What a token shows. -/
noncomputable def showL (op A B : Int) (name : List UInt8) : List UInt8 :=
  if rowHow op = 1 then rowName op ++ [32] ++ name else if rowHow op = 2 then rowName op ++ [32] ++ sciS (bitsOf A) 17 else if rowHow op = 3 then rowName op ++ [32] ++ Lib.itoa A
  else if rowHow op = 4 then rowName op ++ [32] ++ Lib.itoa A ++ [32] ++ Lib.itoa B else rowName op
theorem sciS_len (a : Nat) (n : Int) : (sciS a n).length ≤ 300 := by
  unfold sciS shownS
  have h1 := oddL_len a
  split
  · rename_i hf
    have h2 := clampN_in n
    have h3 := repT_length a (clampN n) hf h2.1 (by omega)
    have h4 := repX_bound a (clampN n)
    have h5 := sciL_len (repT a (clampN n)) (if decide (fM a = 0) then 0 else repX a (clampN n) - 1) (by omega) (by split <;> omega) (by split <;> omega)
    split
    · rw [List.length_cons]; omega
    · omega
  · omega
theorem rowHow_in (op : Int) : rowHow op = 0 ∨ rowHow op = 1 ∨ rowHow op = 2 ∨ rowHow op = 3 ∨ rowHow op = 4 := by
  unfold rowHow
  have key : ∀ (c : Prop) [Decidable c] (a b : Int), (a = 0 ∨ a = 1 ∨ a = 2 ∨ a = 3 ∨ a = 4) → (b = 0 ∨ b = 1 ∨ b = 2 ∨ b = 3 ∨ b = 4) → ((if c then a else b) = 0 ∨ (if c then a else b) = 1 ∨ (if c then a else b) = 2 ∨ (if c then a else b) = 3 ∨ (if c then a else b) = 4) := by
    intro c _ a b h1 h2
    split
    · exact h1
    · exact h2
  repeat refine key _ _ _ (by decide) ?_
  decide

set_option maxRecDepth 100000 in
set_option maxHeartbeats 2000000 in
theorem show_any (w : World) (op A B : Int) (name : List UInt8) (hn : name.length ≤ 1000) (hA0 : -9223372036854775808 ≤ A) (hA1 : A ≤ 9223372036854775807) (hB0 : -9223372036854775808 ≤ B) (hB1 : B ≤ 9223372036854775807) (ht : Tab w) :
    Calls Tryz.prog 8 #[.agg #[.int .i64 op, .int .i64 A, .int .i64 B], .string (S name)] w fun e w' => e = .returned (.string (S (showL op A B name))) ∧ Below w.heap.size w w' := by
  have HNM := Aside0.mk hn
  have HAB := Aside0.mk (show (-9223372036854775808 ≤ A ∧ A ≤ 9223372036854775807) ∧ (-9223372036854775808 ≤ B ∧ B ≤ 9223372036854775807) from ⟨⟨hA0, hA1⟩, ⟨hB0, hB1⟩⟩)
  have HT := Aside0.mk ht
  have HRL := Aside0.mk (rowName_len op)
  have HROW := Aside0.mk (fun W => row_any W op)
  have hbits : IntKind.u64.wrap A = (bitsOf A : Int) := by rw [IntKind.wrap_u64]; unfold bitsOf; omega
  have hbl : bitsOf A < 18446744073709551616 := by unfold bitsOf; omega
  have HSC := Aside0.mk (fun W (hW : Tab W) => science_any W (bitsOf A) 17 hbl hW)
  have HSL := Aside0.mk (sciS_len (bitsOf A) 17)
  obtain ⟨b, hb⟩ : ∃ b, b = bitsOf A := ⟨_, rfl⟩
  obtain ⟨R, hR⟩ : ∃ R, R = rowName op := ⟨_, rfl⟩
  have HSH := Aside0.mk (show showL op A B name = if rowHow op = 1 then R ++ [32] ++ name else if rowHow op = 2 then R ++ [32] ++ sciS b 17 else if rowHow op = 3 then R ++ [32] ++ Lib.itoa A else if rowHow op = 4 then R ++ [32] ++ Lib.itoa A ++ [32] ++ Lib.itoa B else R by rw [hR, hb]; rfl)
  rw [HSH.out]
  rw [← hb] at hbits HSC HSL
  rw [← hR] at HROW HRL
  clear hb hR HSH hn hA0 hA1 hB0 hB1 ht hbl
  have k0 : (w.alloc (.cells #[.int .i64 op, .int .i64 A, .int .i64 B] 23)).cell? ⟨w.heap.size, 0, none⟩ = some (.int .i64 op) := (new_at w _ 23 0).1
  have HBX := Aside0.mk (show Below w.heap.size w (w.alloc (.cells #[.int .i64 op, .int .i64 A, .int .i64 B] 23)) from below_alloc (Below.refl _ _) _)
  have k1 : (w.alloc (.cells #[.int .i64 op, .int .i64 A, .int .i64 B] 23)).cell? ⟨w.heap.size, 1, none⟩ = some (.int .i64 A) := (new_at w _ 23 1).1
  have k2 : (w.alloc (.cells #[.int .i64 op, .int .i64 A, .int .i64 B] 23)).cell? ⟨w.heap.size, 2, none⟩ = some (.int .i64 B) := (new_at w _ 23 2).1
  obtain ⟨h, hh⟩ : ∃ h, h = rowHow op := ⟨_, rfl⟩
  have hin := rowHow_in op
  rw [← hh] at HROW hin ⊢
  clear hh
  rcases hin with rfl | rfl | rfl | rfl | rfl
  · have HGOAL : ∀ U, U = S (R) → Calls Tryz.prog 8 #[.agg #[.int .i64 op, .int .i64 A, .int .i64 B], .string (S name)] w fun e w' => e = .returned (.string U) ∧ Below w.heap.size w w' := by
      intro U hU
      have HU := Aside0.mk hU
      clear hU
      go_enter Tryz.func8, Tryz.ntmps8
      go_wp2_with fail
      obtain ⟨W1, hW1⟩ : ∃ W1, W1 = w.alloc (.cells #[.int .i64 op, .int .i64 A, .int .i64 B] 23) := ⟨_, rfl⟩
      obtain ⟨g, hg⟩ : ∃ g, g = w.heap.size := ⟨_, rfl⟩
      have hgW : g < W1.heap.size := by rw [hW1, hg]; simp
      rw [← hW1] at k0 k1 k2 HBX ⊢
      rw [← hg] at k0 k1 k2 ⊢
      have HT1 := Aside0.mk (HT.out.below (HBX.out))
      have HTG := Aside0.mk (show w.heap.size ≤ W1.heap.size from HBX.out.size)
      clear hW1 hg
      refine (HROW.out _).mono ?_
      rintro e w1 ⟨rfl, rfl⟩
      have HOL := Aside0.mk (show OwS (w1.alloc (.cells #[.string (S R)] 9)) w1.heap.size (.slice (some ⟨w1.heap.size, 0, none⟩) 1 1) [S R] from OwS.lit w1 w1.heap.size [S R] (Nat.le_refl _) (by simp))
      have HBL := Aside0.mk (show Below w1.heap.size w1 (w1.alloc (.cells #[.string (S R)] 9)) from below_alloc (Below.refl _ _) _)
      have HJ := Aside0.mk (show S (Lib.join [R] [32]) = U by rw [HU.out, Lib.join_one])
      go_wp2_with (go_at_call 28; refine (join_own _ _ _ [R] [32] HOL.out (by simp) (by simp) (by rw [Lib.join_one]; have := HRL.out; omega)).mono ?_; rw [HJ.out]; rintro e w2 ⟨rfl, hb2⟩)
      go_ret
      exact ⟨rfl, HBX.out.trans ((HBL.out.trans (hb2.mono HBL.out.size)).mono HTG.out)⟩
    exact HGOAL _ rfl
  · have HGOAL : ∀ U, U = S (R ++ [32] ++ name) → Calls Tryz.prog 8 #[.agg #[.int .i64 op, .int .i64 A, .int .i64 B], .string (S name)] w fun e w' => e = .returned (.string U) ∧ Below w.heap.size w w' := by
      intro U hU
      have HU := Aside0.mk hU
      clear hU
      go_enter Tryz.func8, Tryz.ntmps8
      go_wp2_with fail
      obtain ⟨W1, hW1⟩ : ∃ W1, W1 = w.alloc (.cells #[.int .i64 op, .int .i64 A, .int .i64 B] 23) := ⟨_, rfl⟩
      obtain ⟨g, hg⟩ : ∃ g, g = w.heap.size := ⟨_, rfl⟩
      have hgW : g < W1.heap.size := by rw [hW1, hg]; simp
      rw [← hW1] at k0 k1 k2 HBX ⊢
      rw [← hg] at k0 k1 k2 ⊢
      have HT1 := Aside0.mk (HT.out.below (HBX.out))
      have HTG := Aside0.mk (show w.heap.size ≤ W1.heap.size from HBX.out.size)
      clear hW1 hg
      refine (HROW.out _).mono ?_
      rintro e w1 ⟨rfl, rfl⟩
      have HOL := Aside0.mk (show OwS (w1.alloc (.cells #[.string (S R)] 9)) w1.heap.size (.slice (some ⟨w1.heap.size, 0, none⟩) 1 1) [S R] from OwS.lit w1 w1.heap.size [S R] (Nat.le_refl _) (by simp))
      have HBL := Aside0.mk (show Below w1.heap.size w1 (w1.alloc (.cells #[.string (S R)] 9)) from below_alloc (Below.refl _ _) _)
      go_wp2_with (at_builtin; refine app_str (w0 := w1) (.tmp 19) (.tmp 21) w1.heap.size rfl rfl _ [S R] (S name) rfl (by rw [World.size_alloc]; rfl) HOL.out HBL.out HBL.out.size (by simp) ?_; intro v5 w5 ho5 hb5; have HO5 := Aside0.mk (show OwS w5 w1.heap.size v5 ([R, name].map S) from ho5); have HB5 := Aside0.mk hb5; clear ho5 hb5)
      have HJ := Aside0.mk (show S (Lib.join [R, name] [32]) = U by rw [HU.out, show Lib.join [R, name] [32] = R ++ [32] ++ name by rw [Lib.join_cons]; simp [Lib.joinTail]])
      have HJL := Aside0.mk (show (Lib.join [R, name] [32]).length ≤ 1000000 by rw [show Lib.join [R, name] [32] = R ++ [32] ++ name by rw [Lib.join_cons]; simp [Lib.joinTail]]; have := HRL.out; have := HNM.out; simp; omega)
      go_wp2_with (go_at_call 28; refine (join_own _ _ _ [R, name] [32] HO5.out (by simp) (by simp) HJL.out).mono ?_; rw [HJ.out]; rintro e w6 ⟨rfl, hb6⟩)
      go_ret
      exact ⟨rfl, HBX.out.trans ((HB5.out.trans (hb6.mono HB5.out.size)).mono HTG.out)⟩
    exact HGOAL _ rfl
  · have HGOAL : ∀ U, U = S (R ++ [32] ++ sciS b 17) → Calls Tryz.prog 8 #[.agg #[.int .i64 op, .int .i64 A, .int .i64 B], .string (S name)] w fun e w' => e = .returned (.string U) ∧ Below w.heap.size w w' := by
      intro U hU
      have HU := Aside0.mk hU
      clear hU
      go_enter Tryz.func8, Tryz.ntmps8
      go_wp2_with fail
      obtain ⟨W1, hW1⟩ : ∃ W1, W1 = w.alloc (.cells #[.int .i64 op, .int .i64 A, .int .i64 B] 23) := ⟨_, rfl⟩
      obtain ⟨g, hg⟩ : ∃ g, g = w.heap.size := ⟨_, rfl⟩
      have hgW : g < W1.heap.size := by rw [hW1, hg]; simp
      rw [← hW1] at k0 k1 k2 HBX ⊢
      rw [← hg] at k0 k1 k2 ⊢
      have HT1 := Aside0.mk (HT.out.below (HBX.out))
      have HTG := Aside0.mk (show w.heap.size ≤ W1.heap.size from HBX.out.size)
      clear hW1 hg
      refine (HROW.out _).mono ?_
      rintro e w1 ⟨rfl, rfl⟩
      have HOL := Aside0.mk (show OwS (w1.alloc (.cells #[.string (S R)] 9)) w1.heap.size (.slice (some ⟨w1.heap.size, 0, none⟩) 1 1) [S R] from OwS.lit w1 w1.heap.size [S R] (Nat.le_refl _) (by simp))
      have HBL := Aside0.mk (show Below w1.heap.size w1 (w1.alloc (.cells #[.string (S R)] 9)) from below_alloc (Below.refl _ _) _)
      go_wp2_with fail
      refine (HSC.out _ (HT1.out.below HBL.out)).mono ?_
      rintro e w4 ⟨rfl, hb4⟩
      have HO4 := Aside0.mk (HOL.out.below hb4)
      have HB4 := Aside0.mk (HBL.out.trans (hb4.mono HBL.out.size))
      clear hb4
      go_wp2_with (at_builtin; refine app_str (w0 := w1) (.tmp 25) (.tmp 30) w1.heap.size rfl rfl _ [S R] (S (sciS b 17)) rfl rfl HO4.out HB4.out HB4.out.size (by simp) ?_; intro v5 w5 ho5 hb5; have HO5 := Aside0.mk (show OwS w5 w1.heap.size v5 ([R, sciS b 17].map S) from ho5); have HB5 := Aside0.mk hb5; clear ho5 hb5)
      have HJ := Aside0.mk (show S (Lib.join [R, sciS b 17] [32]) = U by rw [HU.out, show Lib.join [R, sciS b 17] [32] = R ++ [32] ++ sciS b 17 by rw [Lib.join_cons]; simp [Lib.joinTail]])
      have HJL := Aside0.mk (show (Lib.join [R, sciS b 17] [32]).length ≤ 1000000 by rw [show Lib.join [R, sciS b 17] [32] = R ++ [32] ++ sciS b 17 by rw [Lib.join_cons]; simp [Lib.joinTail]]; have := HRL.out; have := HSL.out; simp; omega)
      go_wp2_with (go_at_call 28; refine (join_own _ _ _ [R, sciS b 17] [32] HO5.out (by simp) (by simp) HJL.out).mono ?_; rw [HJ.out]; rintro e w6 ⟨rfl, hb6⟩)
      go_ret
      exact ⟨rfl, HBX.out.trans ((HB5.out.trans (hb6.mono HB5.out.size)).mono HTG.out)⟩
    exact HGOAL _ rfl
  · have HGOAL : ∀ U, U = S (R ++ [32] ++ Lib.itoa A) → Calls Tryz.prog 8 #[.agg #[.int .i64 op, .int .i64 A, .int .i64 B], .string (S name)] w fun e w' => e = .returned (.string U) ∧ Below w.heap.size w w' := by
      intro U hU
      have HU := Aside0.mk hU
      clear hU
      go_enter Tryz.func8, Tryz.ntmps8
      go_wp2_with fail
      obtain ⟨W1, hW1⟩ : ∃ W1, W1 = w.alloc (.cells #[.int .i64 op, .int .i64 A, .int .i64 B] 23) := ⟨_, rfl⟩
      obtain ⟨g, hg⟩ : ∃ g, g = w.heap.size := ⟨_, rfl⟩
      have hgW : g < W1.heap.size := by rw [hW1, hg]; simp
      rw [← hW1] at k0 k1 k2 HBX ⊢
      rw [← hg] at k0 k1 k2 ⊢
      have HT1 := Aside0.mk (HT.out.below (HBX.out))
      have HTG := Aside0.mk (show w.heap.size ≤ W1.heap.size from HBX.out.size)
      clear hW1 hg
      refine (HROW.out _).mono ?_
      rintro e w1 ⟨rfl, rfl⟩
      have HOL := Aside0.mk (show OwS (w1.alloc (.cells #[.string (S R)] 9)) w1.heap.size (.slice (some ⟨w1.heap.size, 0, none⟩) 1 1) [S R] from OwS.lit w1 w1.heap.size [S R] (Nat.le_refl _) (by simp))
      have HBL := Aside0.mk (show Below w1.heap.size w1 (w1.alloc (.cells #[.string (S R)] 9)) from below_alloc (Below.refl _ _) _)
      go_wp2_with fail
      refine (itoa_any _ A HAB.out.1.1 HAB.out.1.2 (HT1.out.below HBL.out)).mono ?_
      rintro e w4 ⟨rfl, hb4⟩
      have HO4 := Aside0.mk (HOL.out.below hb4)
      have HB4 := Aside0.mk (HBL.out.trans (hb4.mono HBL.out.size))
      clear hb4
      go_wp2_with (at_builtin; refine app_str (w0 := w1) (.tmp 34) (.tmp 38) w1.heap.size rfl rfl _ [S R] (S (Lib.itoa A)) rfl rfl HO4.out HB4.out HB4.out.size (by simp) ?_; intro v5 w5 ho5 hb5; have HO5 := Aside0.mk (show OwS w5 w1.heap.size v5 ([R, Lib.itoa A].map S) from ho5); have HB5 := Aside0.mk hb5; clear ho5 hb5)
      have HJ := Aside0.mk (show S (Lib.join [R, Lib.itoa A] [32]) = U by rw [HU.out, show Lib.join [R, Lib.itoa A] [32] = R ++ [32] ++ Lib.itoa A by rw [Lib.join_cons]; simp [Lib.joinTail]])
      have HJL := Aside0.mk (show (Lib.join [R, Lib.itoa A] [32]).length ≤ 1000000 by rw [show Lib.join [R, Lib.itoa A] [32] = R ++ [32] ++ Lib.itoa A by rw [Lib.join_cons]; simp [Lib.joinTail]]; have := HRL.out; have := itoa_len A HAB.out.1.1 HAB.out.1.2; simp; omega)
      go_wp2_with (go_at_call 28; refine (join_own _ _ _ [R, Lib.itoa A] [32] HO5.out (by simp) (by simp) HJL.out).mono ?_; rw [HJ.out]; rintro e w6 ⟨rfl, hb6⟩)
      go_ret
      exact ⟨rfl, HBX.out.trans ((HB5.out.trans (hb6.mono HB5.out.size)).mono HTG.out)⟩
    exact HGOAL _ rfl
  · have HGOAL : ∀ U, U = S (R ++ [32] ++ Lib.itoa A ++ [32] ++ Lib.itoa B) → Calls Tryz.prog 8 #[.agg #[.int .i64 op, .int .i64 A, .int .i64 B], .string (S name)] w fun e w' => e = .returned (.string U) ∧ Below w.heap.size w w' := by
      intro U hU
      have HU := Aside0.mk hU
      clear hU
      go_enter Tryz.func8, Tryz.ntmps8
      go_wp2_with fail
      obtain ⟨W1, hW1⟩ : ∃ W1, W1 = w.alloc (.cells #[.int .i64 op, .int .i64 A, .int .i64 B] 23) := ⟨_, rfl⟩
      obtain ⟨g, hg⟩ : ∃ g, g = w.heap.size := ⟨_, rfl⟩
      have hgW : g < W1.heap.size := by rw [hW1, hg]; simp
      rw [← hW1] at k0 k1 k2 HBX ⊢
      rw [← hg] at k0 k1 k2 ⊢
      have HT1 := Aside0.mk (HT.out.below (HBX.out))
      have HTG := Aside0.mk (show w.heap.size ≤ W1.heap.size from HBX.out.size)
      clear hW1 hg
      refine (HROW.out _).mono ?_
      rintro e w1 ⟨rfl, rfl⟩
      have HOL := Aside0.mk (show OwS (w1.alloc (.cells #[.string (S R)] 9)) w1.heap.size (.slice (some ⟨w1.heap.size, 0, none⟩) 1 1) [S R] from OwS.lit w1 w1.heap.size [S R] (Nat.le_refl _) (by simp))
      have HBL := Aside0.mk (show Below w1.heap.size w1 (w1.alloc (.cells #[.string (S R)] 9)) from below_alloc (Below.refl _ _) _)
      go_wp2_with fail
      obtain ⟨W2, hW2⟩ : ∃ W2, W2 = w1.alloc (.cells #[.string (S R)] 9) := ⟨_, rfl⟩
      have HS12 := Aside0.mk (show w1.heap.size ≤ W2.heap.size by rw [hW2]; simp)
      have hgW2 : g < W2.heap.size := by have := HS12.out; omega
      have j1 := (HBL.out.cell (p := ⟨g, 1, none⟩) hgW).trans k1
      have j2 := (HBL.out.cell (p := ⟨g, 2, none⟩) hgW).trans k2
      obtain ⟨g1, hg1⟩ : ∃ g1, g1 = w1.heap.size := ⟨_, rfl⟩
      have HG1 := Aside0.mk hg1
      have HT2 := Aside0.mk (HT1.out.below HBL.out)
      rw [← hW2] at j1 j2 HOL HBL HT2 ⊢
      rw [← hg1] at HOL ⊢
      have hgg1 : g < g1 := by rw [hg1]; exact hgW
      clear hW2 hg1 k0 k1 k2
      go_region_held3 (fun w' => w'.cell? ⟨g, 1, none⟩ = some (.int .i64 A) ∧ w'.cell? ⟨g, 2, none⟩ = some (.int .i64 B)) (first | go_keep | (refine ⟨(hb6.cell (p := ⟨g, 1, none⟩) hgg1).trans j1, (hb6.cell (p := ⟨g, 2, none⟩) hgg1).trans j2⟩) | (refine ⟨(hb4.cell (p := ⟨g, 1, none⟩) hgW2).trans j1, (hb4.cell (p := ⟨g, 2, none⟩) hgW2).trans j2⟩) | (refine ⟨(hb5.cell (p := ⟨g, 1, none⟩) (Nat.lt_of_lt_of_le hgW2 hb4.size)).trans ((hb4.cell (p := ⟨g, 1, none⟩) hgW2).trans j1), (hb5.cell (p := ⟨g, 2, none⟩) (Nat.lt_of_lt_of_le hgW2 hb4.size)).trans ((hb4.cell (p := ⟨g, 2, none⟩) hgW2).trans j2)⟩) | (trace_state; fail))
        (first
          | (go_at_call_of 27 (Value.int .i64 A); refine (itoa_any _ A HAB.out.1.1 HAB.out.1.2 ?_).mono ?_; (first | exact HT2.out | exact HT2.out.below (Below.drew (Below.refl _ _))); rintro y w4 ⟨rfl, hb4⟩)
          | (go_at_call_of 27 (Value.int .i64 B); refine (itoa_any _ B HAB.out.2.1 HAB.out.2.2 ?_).mono ?_; (first | exact HT2.out | exact HT2.out.below hb4 | exact HT2.out.below ((Below.drew (Below.refl _ _)).trans hb4)); rintro y w5 ⟨rfl, hb5⟩)
          | (have hB5 : Below W2.heap.size W2 (w5.alloc (.cells #[.string (S (Lib.itoa A)), .string (S (Lib.itoa B))] 9)) := below_alloc (((Below.drew (Below.refl W2.heap.size W2)).trans hb4).trans (hb5.mono hb4.size)) _
             refine app_str_step (w0 := W2) (.tmp 42) (.tmp 49) g1 (by rfl) (by rfl) _ [S R] [S (Lib.itoa A), S (Lib.itoa B)] (some ⟨w5.heap.size, 0, none⟩) 2 2 (by rfl) (by rfl) (HOL.out.below hB5) (Kd.R_reads' (OwS.lit w5 w5.heap.size [S (Lib.itoa A), S (Lib.itoa B)] (Nat.le_refl _) (by simp))).2.2 (hB5.mono (by rw [HG1.out]; exact HS12.out)) (by rw [HG1.out]; exact Nat.le_trans HS12.out hB5.size) (by simp) ?_
             intro v6 w6 ho6 hb6))
      have HO5 := Aside0.mk (show OwS w6 g1 v6 ([R, Lib.itoa A, Lib.itoa B].map S) from ho6)
      have HB5 := Aside0.mk (HBL.out.trans (hb6.mono (by rw [HG1.out]; exact Nat.le_refl _)))
      have HJ := Aside0.mk (show S (Lib.join [R, Lib.itoa A, Lib.itoa B] [32]) = U by rw [HU.out, Lib.join_cons]; simp [Lib.joinTail])
      have HJL := Aside0.mk (show (Lib.join [R, Lib.itoa A, Lib.itoa B] [32]).length ≤ 1000000 by rw [Lib.join_cons]; have := HRL.out; have := itoa_len A HAB.out.1.1 HAB.out.1.2; have := itoa_len B HAB.out.2.1 HAB.out.2.2; simp [Lib.joinTail]; omega)
      go_wp2_with (go_at_call 28; refine (join_own _ _ _ [R, Lib.itoa A, Lib.itoa B] [32] HO5.out (by simp) (by simp) HJL.out).mono ?_; rw [HJ.out]; rintro e w7 ⟨rfl, hb7⟩)
      go_ret
      exact ⟨rfl, HBX.out.trans ((HB5.out.trans (hb7.mono HB5.out.size)).mono HTG.out)⟩
    exact HGOAL _ rfl

end Go.Proofs.YthknbknmlnnhcaaGreatDoor
