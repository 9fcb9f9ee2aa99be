/- The words of the walks over rows of bytes; rows that stay when another is written; trimmed of an own row. -/
import Derived.Test.YthknbknmlnnhcaaGreatDoorWp
import Derived.Test.YthknbknmlnnhcaaGreatDoorM
namespace Go.Proofs.YthknbknmlnnhcaaGreatDoor
open Go.RowKit Go.Proofs.YthknbknmlnnhcaaGreatDoorW.PrintWords Bob
set_option linter.unusedVariables false
set_option linter.unusedSimpArgs false

/-- v is a row of bytes that the call itself has made (blocks from base on). -/
def Ow8 (w : World) (base : Nat) (v : Value) (l : List Int) : Prop := (Kd.int .u8).R 5 w base (fun _ => True) v l
theorem Ow8.nil (w : World) (base : Nat) : Ow8 w base (.slice none 0 0) [] := Kd.R_nil _ _ _ _ _
theorem Ow8.below {w w1 : World} {base : Nat} {v : Value} {l : List Int} (h : Ow8 w base v l) (hb : Below w.heap.size w w1) : Ow8 w1 base v l := Kd.R_below h hb
theorem Ow8.form {w : World} {base : Nat} {v : Value} {l : List Int} (h : Ow8 w base v l) (hp : 0 < l.length) : ∃ g cap, v = .slice (some ⟨g, 0, none⟩) l.length cap ∧ base ≤ g ∧ g < w.heap.size := by
  obtain ⟨g, cap, h1, h2, h3, _⟩ := Kd.R_form h hp
  exact ⟨g, cap, h1, h2, h3⟩
theorem Ow8.slice {w : World} {base : Nat} {v : Value} {l : List Int} (h : Ow8 w base v l) : ∃ A c, v = .slice A l.length c := Kd.R_slice h
theorem Ow8.cell {w : World} {base g n cap : Nat} {l : List Int} (h : Ow8 w base (.slice (some ⟨g, 0, none⟩) n cap) l) (i : Nat) (hi : i < n) : ∃ X, Aside0 (l.getD i 0 = X) ∧ w.cell? ⟨g, i, none⟩ = some (.int .u8 X) ∧ w.frozen? ⟨g, i, none⟩ = false := by
  have := Kd.R_celln (d := (0 : Int)) h (i : Int) (by omega) (by omega)
  exact ⟨_, ⟨rfl⟩, this⟩
theorem Ow8.len {w : World} {base n cap : Nat} {A : Option Addr} {l : List Int} (h : Ow8 w base (.slice A n cap) l) : n = l.length := (Kd.R_reads' h).1
/-- A word set in a block below base turns no row of blocks from base on. -/
theorem Ow8.other {w : World} {base g : Nat} {v : Value} {l : List Int} (h : Ow8 w base v l) (hg : g < base) (i : Nat) (u : Value) : Ow8 (w.setCell ⟨g, i, none⟩ u) base v l :=
  Kd.R_mono (Kd.R_move (Kd.R_bound h) fun k hk => (Only.setOther w i u : Only g w _).2 k (by have := hk.2.1; omega) |> fun e => e (by have := hk.2.1; omega)) (fun _ _ => trivial)
theorem info5 : (Tryz.prog.info? 5).map (fun i => (i.zero, i.size, i.bytes)) = some (some (.int .u8 0), 1, 1) := by kernel_rfl

section
variable {ops : Array Oper} {rest : List Oper} {o : Oper} {a : Act} {Q : Exit → Act → World → Prop} {w0 W : World}
/-- append(s, x), s the call's own row of bytes, one byte. -/
theorem app_byte (s x : Operand) (base : Nat) (hgd : o.guard = none) (ho : o.op = .call { callee := .builtin .append, args := #[s, x], argTypes := #[86, 86] })
    (v : Value) (xs : List Int) (p : Int) (hs : a.eval s = v) (hx : a.eval x = .slice (some ⟨W.heap.size, 0, none⟩) 1 1) (HO : Ow8 W base v xs) (HB : Below base w0 W) (hbase : base ≤ W.heap.size) (hl : xs.length ≤ 1000000)
    (h : ∀ v1 w1, Ow8 w1 base v1 (xs ++ [p]) → Below base w0 w1 → wpList Tryz.prog ops Q rest (a.put o.dst v1) w1) : wpList Tryz.prog ops Q (o :: rest) a (W.alloc (.cells #[.int .u8 p] 5)) :=
  Kd.R_append (Kd.int .u8) base hgd s x 86 5 (.int .u8 0) 1 ho Tryz.underlying86 info5 rfl (by decide) (by omega) v xs p [.int .u8 p] (fun _ => True) (fun _ => False) hs hx rfl (fun _ h => h.elim) (fun _ _ => trivial) HO HB hbase (by have : (Kd.int .u8).sz = 1 := rfl; omega) (fun v1 w1 h1 h2 _ _ => h v1 w1 h1 h2)
end
/-- A row of bytes as a string. -/
theorem conv_bytes {w : World} {base : Nat} {v : Value} {l : List Int} (h : Ow8 w base v l) : (convert 86 9 v).run Tryz.prog w = .ok (.string (strOfNums l)) w :=
  own_string (P := Tryz.prog) Tryz.underlying86 Tryz.underlying5 Tryz.underlying9 (Kd.own_of_R h)

/-- A row of blocks from base on, below B, stays when nothing below B turns. -/
theorem Ow.keep {w w1 : World} {base B : Nat} {v : Value} {l : List Int} (h : Ow w base v l) (hv : ∀ k, v.ownBlock = some k → k < B) (hb : Below B w w1) : Ow w1 base v l := by
  have h1 : (Kd.int .u32).R 108 w base (fun k => k < B) v l := Kd.R_of_own (Kd.own_of_R h) hv
  exact Kd.R_mono (Kd.R_move h1 fun k hk => hb.block k hk) (fun _ _ => trivial)
/-- Without the noughts at the end, in the same memory. -/
theorem Ow.trim {w : World} {base n c : Nat} {A : Option Addr} {l : List Int} {M : Nat} (h : Ow w base (.slice A n c) l) (hn : M ≤ n) (he : words (val l) = l.take M) : Ow w base (.slice A M c) (words (val l)) := by
  rw [he]
  exact h.tk (by have := h.len; omega)

set_option maxHeartbeats 400000 in
theorem rtrimmed_eq (w : World) (A : Option Addr) (c n : Nat) (l : List Int) (hd : Dg l) (h : Rd w (.slice A n c) l) : Calls Tryz.prog 110 #[.slice A n c] w fun e w' => w' = w ∧ ∃ M, M ≤ n ∧ M = (words (val l)).length ∧ words (val l) = l.take M ∧ e = .returned (.slice A M c) := by
  obtain ⟨n', A', c', he, HL, hc, hm, HC⟩ := h.elim
  injection he with e1 e2 e3
  subst e1 e2 e3
  have HD := Aside0.mk hd
  clear hd h
  go_enter Tryz.func110, Tryz.ntmps110
  go_wp2
  go_loopg [3] n (fun k v3 w' => ∃ j : Nat, v3 = .int .i64 (j : Int) ∧ j ≤ k ∧ j ≤ n ∧ Aside0 (val (l.take j) = val l) ∧ Aside0 (w = w'))
  case atStart => exact ⟨n, rfl, Nat.le_refl _, Nat.le_refl _, ⟨by rw [List.take_of_length_le (by rw [← HL.out]; exact Nat.le_refl _)]⟩, ⟨rfl⟩⟩
  case round =>
    obtain ⟨j, rfl, hk, hn, HV, HW⟩ := hrel
    obtain rfl := HW.out
    clear HW
    cases j with
    | zero =>
      go_wp2
      go_ret
      have e : words (val l) = l.take 0 := by rw [← HV.out]; exact words_zero
      exact ⟨rfl, 0, Nat.zero_le _, by rw [e]; rfl, e, rfl⟩
    | succ m =>
      obtain ⟨ad, X, rfl, HX, hcell⟩ := C_at HC.out m (by omega)
      by_cases hz : X = 0
      · subst hz
        go_wp2
        go_roundg m
        case measure => omega
        case rel => exact ⟨m, by go_num, Nat.le_refl _, by omega, ⟨by rw [← HV.out, val_take_top (by rw [← HL.out]; exact hn) HX.out]⟩, ⟨rfl⟩⟩
      · have HZ := Aside0.mk hz
        go_wp2
        go_ret
        have e : words (val l) = l.take (m + 1) := by
          rw [← HV.out]
          refine words_val (dg_take HD.out _) (.inr ?_)
          rw [List.length_take, ← HL.out, Nat.min_eq_left hn, Nat.add_sub_cancel, List.getD_eq_getElem?_getD, List.getElem?_take, if_pos (Nat.lt_succ_self m), ← List.getD_eq_getElem?_getD, HX.out]
          exact HZ.out
        exact ⟨rfl, m + 1, hn, by rw [e, List.length_take, ← HL.out]; omega, e, rfl⟩

end Go.Proofs.YthknbknmlnnhcaaGreatDoor
