/- The words of the walks: a row of 32-bit words that a value reads as in a world; what a call hands back. -/
import Derived.Test.YthknbknmlnnhcaaGreatDoorProg
import Derived.Below
import Derived.Deep.Draws
import Derived.Deep.AppendLies
import Derived.Maps.AppendAt
import Derived.OwnWalk
import Derived.Laws.BytesArg
import Derived.Laws.MakeOwn
import Derived.Laws.OwnMore
import Derived.Deep.OwnRows
import Derived.Tactics
import Derived.Lib.ConvBytes
import Derived.Laws.Slices
import Derived.WalkKit
import Derived.KernelRfl
import Derived.RowKit3
import Derived.Deep.LoopGhost
import Derived.Deep.QuietTactic
import Derived.BigQuiet
import Derived.WideLaws
import Derived.Deep.DeepCutAuto
import Derived.Deep.CutBlock
import Derived.Deep.RegionHeld3
import Derived.Laws.Rows
import Derived.Lib.AppendStr
import Derived.ArgAppend
import Derived.Laws.IdiomCopy
import Derived.OrdersHeld
import Derived.Laws.BitsLemmas
import Derived.RowKit
import Derived.Outline
import Derived.WalkSpells
import Derived.WalkLawsBesides
import Derived.Test.YthknbknmlnnhcaaGreatDoorWWords
import Derived.Test.YthknbknmlnnhcaaGreatDoorM
namespace Go.Proofs.YthknbknmlnnhcaaGreatDoor
open Go.RowKit Go.Proofs.YthknbknmlnnhcaaGreatDoorW.PrintWords Bob
set_option linter.unusedVariables false
set_option linter.unusedSimpArgs false

theorem ret_int {k : IntKind} {a b : Int} (h : a = b) : Ending.returned (.int k a) = .returned (.int k b) := by rw [h]
theorem ret_bool {a b : Bool} (h : a = b) : Ending.returned (.bool a) = .returned (.bool b) := by rw [h]
/-- v reads as the words l in w. -/
def Rd (w : World) (v : Value) (l : List Int) : Prop := ∃ A c, v = .slice A l.length c ∧ l.length ≤ c ∧ (Kd.int .u32).C w A l.length l
/-- The call hands back the words of N; nothing that was there has turned. -/
def RetNum (N : Nat) (w : World) (e : Ending) (w' : World) : Prop := ∃ v', e = .returned v' ∧ Rd w' v' (words N) ∧ Below w.heap.size w w'

theorem Rd.below {w w1 : World} {v : Value} {l : List Int} (h : Rd w v l) (hb : Below w.heap.size w w1) : Rd w1 v l := by
  obtain ⟨A, c, h1, h2, h3⟩ := h
  exact ⟨A, c, h1, h2, Kd.C_below h3 hb⟩

theorem RetNum.mk {N n : Nat} {w w' : World} {A : Option Addr} {c : Nat} {x : List Int} {e : Ending} (hx : words N = x) (hl : x.length = n) (hc : n ≤ c) (hC : (Kd.int .u32).C w' A n x) (hb : Below w.heap.size w w') (he : e = .returned (.slice A n c)) : RetNum N w e w' := by
  subst hl; subst he; rw [← hx] at hC hc ⊢; exact ⟨_, rfl, ⟨A, c, rfl, hc, hC⟩, hb⟩
theorem C_tk {w : World} {A : Option Addr} {n m : Nat} {x : List Int} (h : (Kd.int .u32).C w A n x) (hm : m ≤ n) : (Kd.int .u32).C w A m (x.take m) := by
  have hl := Kd.C_len h
  subst hl
  have := Kd.C_take h hm
  rwa [List.length_take, Nat.min_eq_left hm] at this

theorem RetNum.elim {N : Nat} {w w' : World} {e : Ending} (h : RetNum N w e w') : ∃ n A c, e = .returned (.slice A n c) ∧ Aside0 (n = (words N).length) ∧ n ≤ c ∧ n ≤ 9223372036854775807 ∧ Aside0 ((Kd.int .u32).C w' A n (words N)) ∧ Aside0 (Below w.heap.size w w') := by
  obtain ⟨v, rfl, ⟨A, c, rfl, hc, hC⟩, hb⟩ := h
  exact ⟨_, A, c, rfl, ⟨rfl⟩, hc, Kd.C_max hC, ⟨hC⟩, ⟨hb⟩⟩
theorem Rd.elim {w : World} {v : Value} {l : List Int} (h : Rd w v l) : ∃ n A c, v = .slice A n c ∧ Aside0 (n = l.length) ∧ n ≤ c ∧ n ≤ 9223372036854775807 ∧ Aside0 ((Kd.int .u32).C w A n l) := by
  obtain ⟨A, c, rfl, hc, hC⟩ := h
  exact ⟨_, A, c, rfl, ⟨rfl⟩, hc, Kd.C_max hC, ⟨hC⟩⟩
theorem C_rd {w : World} {A : Option Addr} {n c : Nat} {l : List Int} (h : (Kd.int .u32).C w A n l) (hc : n ≤ c) : Rd w (.slice A n c) l := by
  have := Kd.C_len h; subst this; exact ⟨A, c, rfl, hc, h⟩
/-- Word i of a row that is read. -/
theorem C_at {w : World} {A : Option Addr} {n : Nat} {l : List Int} (h : (Kd.int .u32).C w A n l) (i : Nat) (hi : i < n) : ∃ ad X, A = some ad ∧ Aside0 (l.getD i 0 = X) ∧ w.cell? (ad.add i) = some (.int .u32 X) := by
  obtain ⟨ad, h1, h2⟩ := Kd.at_int h (i : Int) (by omega) (by omega)
  exact ⟨ad, _, h1, ⟨rfl⟩, h2⟩

/-- v is a row of words that the call itself has made (blocks from base on). -/
def Ow (w : World) (base : Nat) (v : Value) (l : List Int) : Prop := (Kd.int .u32).R 108 w base (fun _ => True) v l
theorem Ow.reads {w : World} {base : Nat} {v : Value} {l : List Int} (h : Ow w base v l) : Rd w v l := by
  obtain ⟨A, c, rfl⟩ := Kd.R_slice h
  have h2 := Kd.R_reads' h
  exact ⟨A, c, rfl, h2.2.1, h2.2.2⟩
theorem Ow.nil (w : World) (base : Nat) : Ow w base (.slice none 0 0) [] := Kd.R_nil _ _ _ _ _
theorem Ow.below {w w1 : World} {base : Nat} {v : Value} {l : List Int} (h : Ow w base v l) (hb : Below w.heap.size w w1) : Ow w1 base v l := Kd.R_below h hb
theorem Ow.drew {w : World} {base : Nat} {v : Value} {l : List Int} (h : Ow w base v l) : Ow w.drew base v l := Kd.R_drew h
theorem Ow.lower {w : World} {base base' : Nat} {v : Value} {l : List Int} (h : Ow w base v l) (hb : base' ≤ base) : Ow w base' v l := Kd.R_lower h hb
theorem Ow.form {w : World} {base : Nat} {v : Value} {l : List Int} (h : Ow w base v l) (hp : 0 < l.length) : ∃ g cap, v = .slice (some ⟨g, 0, none⟩) l.length cap ∧ base ≤ g ∧ g < w.heap.size := by
  obtain ⟨g, cap, h1, h2, h3, _⟩ := Kd.R_form h hp
  exact ⟨g, cap, h1, h2, h3⟩
theorem Ow.cell {w : World} {base g n cap : Nat} {l : List Int} (h : Ow w base (.slice (some ⟨g, 0, none⟩) n cap) l) (i : Nat) (hi : i < n) : ∃ X, Aside0 (l.getD i 0 = X) ∧ w.cell? ⟨g, i, none⟩ = some (.int .u32 X) ∧ w.frozen? ⟨g, i, none⟩ = false := by
  have := Kd.R_celln (d := (0 : Int)) h (i : Int) (by omega) (by omega)
  exact ⟨_, ⟨rfl⟩, this⟩
theorem Ow.put {w : World} {base g n cap : Nat} {l : List Int} (h : Ow w base (.slice (some ⟨g, 0, none⟩) n cap) l) (i : Nat) (x : Int) : Ow (w.setCell ⟨g, i, none⟩ (.int .u32 x)) base (.slice (some ⟨g, 0, none⟩) n cap) (l.set i x) :=
  Kd.R_putn h (i : Int) x
theorem Ow.len {w : World} {base n cap : Nat} {A : Option Addr} {l : List Int} (h : Ow w base (.slice A n cap) l) : n = l.length := (Kd.R_reads' h).1
theorem Ow.tk {w : World} {base n m c : Nat} {A : Option Addr} {l : List Int} (h : Ow w base (.slice A n c) l) (hm : m ≤ l.length) : Ow w base (.slice A m c) (l.take m) := Kd.R_take h hm

theorem info108 : (Tryz.prog.info? 108).map (fun i => (i.zero, i.size, i.bytes)) = some (some (.int .u32 0), 1, 4) := by kernel_rfl

section
variable {ops : Array Oper} {rest : List Oper} {o : Oper} {a : Act} {Q : Exit → Act → World → Prop} {w0 W : World}
/-- append(s, x...), s the call's own. -/
theorem app_u32 (s x : Operand) (base : Nat) (hgd : o.guard = none) (ho : o.op = .call { callee := .builtin .append, args := #[s, x], argTypes := #[66, 66] })
    (v : Value) (xs ys : List Int) (A : Option Addr) (m c : Nat) (hs : a.eval s = v) (hx : a.eval x = .slice A m c) (HO : Ow W base v xs) (HR : (Kd.int .u32).C W A m ys) (HB : Below base w0 W) (hbase : base ≤ W.heap.size) (hl : xs.length + m ≤ 1000000)
    (h : ∀ v1 w1, Ow w1 base v1 (xs ++ ys) → Below base w0 w1 → wpList Tryz.prog ops Q rest (a.put o.dst v1) w1) : wpList Tryz.prog ops Q (o :: rest) a W :=
  Kd.R_append_rows (Kd.int .u32) base hgd s x 66 108 (.int .u32 0) 4 ho Tryz.underlying66 info108 rfl (by decide) (by omega) v xs ys A m c (fun _ => True) (fun _ => False) hs hx HO HR (fun _ _ h => h) (fun _ h => h.elim) (fun _ _ => trivial) HB hbase (by omega) (fun v1 w1 h1 h2 _ _ => h v1 w1 h1 h2)
/-- The same as one step of a region that draws its order. -/
theorem app_step {Kc : Act → World → Prop} (s x : Operand) (base : Nat) (hw : Region.wanted o (yielded ops a.tmps) = true) (ho : o.op = .call { callee := .builtin .append, args := #[s, x], argTypes := #[66, 66] })
    (v : Value) (xs ys : List Int) (A : Option Addr) (m c : Nat) (hs : a.eval s = v) (hx : a.eval x = .slice A m c) (HO : Ow W base v xs) (HR : (Kd.int .u32).C W A m ys) (HB : Below base w0 W) (hbase : base ≤ W.heap.size) (hl : xs.length + m ≤ 1000000)
    (h : ∀ v1 w1, Ow w1 base v1 (xs ++ ys) → Below base w0 w1 → Kc (a.put o.dst v1) w1) : if Region.wanted o (yielded ops a.tmps) = true then Oper.wp Tryz.prog o a W Kc Q else Kc (a.put o.dst undef) W :=
  Kd.R_append_rows_step (Kd.int .u32) base hw s x 66 108 (.int .u32 0) 4 ho Tryz.underlying66 info108 rfl (by decide) (by omega) v xs ys A m c (fun _ => True) (fun _ => False) hs hx HO HR (fun _ _ h => h) (fun _ h => h.elim) (fun _ _ => trivial) HB hbase (by omega) (fun v1 w1 h1 h2 _ _ => h v1 w1 h1 h2)
/-- append(s, x), s the call's own, one word. -/
theorem app_one (s x : Operand) (base : Nat) (hgd : o.guard = none) (ho : o.op = .call { callee := .builtin .append, args := #[s, x], argTypes := #[66, 66] })
    (v : Value) (xs : List Int) (p : Int) (hs : a.eval s = v) (hx : a.eval x = .slice (some ⟨W.heap.size, 0, none⟩) 1 1) (HO : Ow W base v xs) (HB : Below base w0 W) (hbase : base ≤ W.heap.size) (hl : xs.length ≤ 1000000)
    (h : ∀ v1 w1, Ow w1 base v1 (xs ++ [p]) → Below base w0 w1 → wpList Tryz.prog ops Q rest (a.put o.dst v1) w1) : wpList Tryz.prog ops Q (o :: rest) a (W.alloc (.cells #[.int .u32 p] 108)) :=
  Kd.R_append (Kd.int .u32) base hgd s x 66 108 (.int .u32 0) 4 ho Tryz.underlying66 info108 rfl (by decide) (by omega) v xs p [.int .u32 p] (fun _ => True) (fun _ => False) hs hx rfl (fun _ h => h.elim) (fun _ _ => trivial) HO HB hbase (by have : (Kd.int .u32).sz = 1 := rfl; omega) (fun v1 w1 h1 h2 _ _ => h v1 w1 h1 h2)
/-- make([]uint32, n). -/
theorem mk_u32 (x y : Operand) (hgd : o.guard = none) {N : Tmp} (hd : o.dst = some N) (ho : o.op = .makeSlice 66 x y) (n : Int) (hx : a.eval x = .int .i64 n) (hy : a.eval y = .int .i64 n) (h0 : 0 ≤ n) (hl : n.toNat ≤ 1000000)
    (h : ∀ v1 w1, Ow w1 W.heap.size v1 (List.replicate n.toNat 0) → Below W.heap.size W w1 → wpList Tryz.prog ops Q rest (a.put o.dst v1) w1) : wpList Tryz.prog ops Q (o :: rest) a W :=
  Kd.R_make (Kd.int .u32) W.heap.size 108 hgd hd 66 x y ho n hx hy Tryz.underlying66 (.int .u32 0) 4 info108 rfl (by decide) (by omega) 0 (ok := fun _ => True) (okp := fun _ => True) rfl (fun _ hk => hk) trivial h0 (by omega) (Below.refl _ _) (Nat.le_refl _) (fun v1 w1 h1 h2 _ _ => h v1 w1 h1 h2)
end
theorem Ow.lit (W : World) (base : Nat) (l : List Int) (hb : base ≤ W.heap.size) (hm : l.length ≤ 1000000) : Ow (W.alloc (.cells (nums .u32 l).toArray 108)) base (.slice (some ⟨W.heap.size, 0, none⟩) l.length l.length) l := by
  have h := own_lit W base 108 .u32 l hb (by omega)
  exact Kd.R_of_own h (fun _ _ => trivial)

/-- make([]uint32, n) as a run, whatever the world: the block that it lays. -/
theorem mk_run (n : Nat) (hn : n ≤ 1000000) : ∃ Z : Obj, (∀ W : World, (Instr.makeSlice 66 (.int .i64 (n : Int)) (.int .i64 (n : Int))).run Tryz.prog W = .ok (.slice (some ⟨W.heap.size, 0, none⟩) n n) (W.alloc Z)) ∧ ∀ (W : World) (base : Nat), base ≤ W.heap.size → Ow (W.alloc Z) base (.slice (some ⟨W.heap.size, 0, none⟩) n n) (List.replicate n 0) := by
  obtain ⟨i0, hi, hz0, hz1, hz2⟩ := info_parts info108
  refine ⟨.cells (madeCells (Value.int .u32 0).cells (n * 1)) 108, fun W => ?_, fun W base hb => ?_⟩
  · have := run_make (P := Tryz.prog) (w := W) 66 108 i0 (.int .u32 0) Tryz.underlying66 hi hz0 .i64 .i64 (n : Int) (n : Int) (by omega) (Int.le_refl _) (by rw [hz2]; omega) (by omega)
    rw [hz1] at this
    exact this
  · have h := own_made W base 108 .u32 n hb (by omega)
    have e : Kd.R (Kd.int .u32) 108 (W.alloc (.cells (madeCells (Value.int .u32 0).cells (n * 1)) 108)) base (fun _ => True) (.slice (some ⟨W.heap.size, 0, none⟩) n n) (List.replicate n 0) := by
      refine Kd.R_of_own ?_ (fun _ _ => trivial)
      rw [List.length_replicate]
      have h2 : encs (Value.int .u32) (List.replicate n 0) = nums .u32 (List.replicate n 0) := rfl
      rw [h2, Nat.mul_one]
      exact h
    exact e

set_option maxHeartbeats 400000 in
theorem trim_any (w : World) (v : Value) (l : List Int) (hd : Dg l) (h : Rd w v l) : Calls Tryz.prog 101 #[v] w (RetNum (val l) w) := by
  have HD := Aside0.mk hd
  have HR := Aside0.mk h
  have HB := Aside0.mk (Below.refl w.heap.size w)
  clear hd h
  go_enter Tryz.func101, Tryz.ntmps101
  go_wp2
  go_loopg [0] l.length (fun k v0 w' => ∃ (n : Nat) (A : Option Addr) (c : Nat) (x : List Int), v0 = .slice A n c ∧ n ≤ k ∧ n ≤ 9223372036854775807 ∧ n ≤ c ∧ Aside0 (x.length = n) ∧ Aside0 (Dg x) ∧ Aside0 (val x = val l) ∧ Aside0 ((Kd.int .u32).C w' A n x) ∧ Aside0 (Below w.heap.size w w'))
  case atStart =>
    obtain ⟨A, c, rfl, h2, h3⟩ := HR.out
    exact ⟨l.length, A, c, l, rfl, Nat.le_refl _, Kd.C_max h3, h2, ⟨rfl⟩, HD, ⟨rfl⟩, ⟨h3⟩, HB⟩
  case round =>
    clear HR HB HD
    obtain ⟨n, A, c, x, rfl, hk, hm, hc, HL, HD, HV, HC, HB⟩ := hrel
    cases n with
    | zero =>
      go_wp2
      go_ret
      exact RetNum.mk (by rw [← HV.out]; exact words_val HD.out (.inl (List.length_eq_zero_iff.1 HL.out))) HL.out hc HC.out HB.out rfl
    | succ m =>
      obtain ⟨ad, rfl, hcell⟩ := Kd.at_int HC.out (m : Int) (by omega) (by omega)
      simp only [Int.toNat_natCast] at hcell
      by_cases hz : rd x (m : Int) = 0
      · rw [hz] at hcell
        have HZ := Aside0.mk hz
        clear hz
        go_wp2
        go_roundg m
        case measure => omega
        case rel =>
          have h1 : (x.take m).length = m := by rw [List.length_take, HL.out]; omega
          refine ⟨m, some ad, c, x.take m, rfl, Nat.le_refl _, by omega, by omega, ⟨h1⟩, ⟨dg_take HD.out m⟩, ⟨?_⟩, ⟨C_tk HC.out (Nat.le_succ m)⟩, HB⟩
          rw [← HV.out, ← val_take_top (m := m) (by rw [HL.out]; exact Nat.le_refl _) HZ.out, List.take_of_length_le (by rw [HL.out]; exact Nat.le_refl _)]
      · have HZ := Aside0.mk hz
        go_wp2
        go_ret
        exact RetNum.mk (by rw [← HV.out]; exact words_val HD.out (.inr (by rw [HL.out]; exact HZ.out))) HL.out hc HC.out HB.out rfl

end Go.Proofs.YthknbknmlnnhcaaGreatDoor
