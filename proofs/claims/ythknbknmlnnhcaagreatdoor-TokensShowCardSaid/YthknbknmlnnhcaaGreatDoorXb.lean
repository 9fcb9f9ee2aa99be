/- The range over slices.Backward: the iterator. -/
import Derived.RangeFuncNested
import Derived.RangeFuncBound
import Derived.RangeFuncCalls
import Derived.RangeFuncLeaves
import Derived.RangeFuncBox
import Derived.Shelf.Abstract
import Derived.Shelf.RegionOpen
import Derived.OwnWalkIn
import Derived.TacticsInMore
import Derived.LoopNIn
import Derived.LoopIn
import Derived.Test.YthknbknmlnnhcaaGreatDoorXa
namespace Go.Proofs.YthknbknmlnnhcaaGreatDoor
open Go.RowKit Go.Shelf Go.Proofs.YthknbknmlnnhcaaGreatDoorW.PrintWords Bob
set_option linter.unusedVariables false
set_option linter.unusedSimpArgs false
attribute [local go_sem] Oper.semAt_some

/-- What is handed out: an index and a piece. -/
abbrev Pc := Nat × { x : Nat // x < 4294967296 }
def encPc (x : Pc) : Array Value := #[.int .i64 (x.1 : Int), .int .u32 (x.2.1 : Int)]
/-- The pieces from the last on, until k are left. -/
def bwd (zs : List { x : Nat // x < 4294967296 }) : Nat → List Pc
  | 0 => []
  | k + 1 => bwd zs k ++ [(zs.length - 1 - k, zs.getD (zs.length - 1 - k) ⟨0, by decide⟩)]

set_option maxRecDepth 100000 in
set_option maxHeartbeats 2000000 in
theorem back1_in (F : Fence) (n : Nat) (h7 : F.fn 174) (hro : F.round = none) (hn : 1 ≤ n) (l Bs b cap : Nat) (zs : List { x : Nat // x < 4294967296 }) (hreach : zs.length ≤ 1000000) (Kp : World → World → Prop) (hKp : ∀ A B, Kp A B → ∀ k, k = Bs ∨ k = b → B.heap[k]? = A.heap[k]?) (J Jx : List Pc → World → Prop)
    (hY : ∀ pre x W, J pre W → pre.length < zs.length → YieldAt F (n - 1) Tryz.prog l (encPc x) W fun e W' =>
      (e = .returned (.bool true) ∧ J (pre ++ [x]) W' ∧ Kp W W') ∨ (e = .returned (.bool false) ∧ Jx (pre ++ [x]) W'))
    (W : World) (hBs : W.cell? ⟨Bs, 0, none⟩ = some (.slice (some ⟨b, 0, none⟩) zs.length cap)) (hc : ∀ j, j < zs.length → W.cell? ⟨b, j, none⟩ = some (.int .u32 ((zs.getD j ⟨0, by decide⟩).1 : Int))) (h0 : J [] W) :
    CallsIn F n Tryz.prog 174 #[.func (.yield l) #[] #[], .pointer (some ⟨Bs, 0, none⟩)] W fun e W' => (∃ v, e = .returned v) ∧
      ((∃ ys, ys = bwd zs zs.length ∧ J ys W') ∨ (∃ pre, (∃ k, pre = bwd zs k) ∧ Jx pre W')) := by
  refine callsIn_of_wp Tryz.func174 rfl h7 ?_ hro
  simp only [Tryz.ntmps174, List.size_toArray, List.length_cons, List.length_nil, Nat.reduceAdd, Nat.reduceSub, Array.replicate_succ, Array.replicate_zero, List.push_toArray, List.append_toArray, List.nil_append, List.cons_append]
  gi_wp2
  gi_loopw [3] (fun i wr => ∃ (m k : Nat) (i' : Int), i = .int .i64 i' ∧ i' = (m : Int) - 1 ∧ m + k = zs.length ∧ J (bwd zs k) wr ∧ wr.heap[Bs]? = W.heap[Bs]? ∧ wr.heap[b]? = W.heap[b]?)
    (fun i _ => (intOf i + 1).toNat)
  case atStart => exact ⟨zs.length, 0, _, rfl, rfl, rfl, h0, rfl, rfl⟩
  case round =>
    obtain ⟨m, k, i', rfl, hi, hk, hJs, hnx1, hnx2⟩ := hrel
    have hbs := (World.cell?_of_block (a := ⟨Bs, 0, none⟩) hnx1).trans hBs
    cases m with
    | zero =>
      obtain rfl : i' = -1 := by omega
      clear hi hc hreach
      gi_wp2
      go_end0
      obtain rfl : k = zs.length := by omega
      exact ⟨⟨_, rfl⟩, .inl ⟨_, rfl, hJs⟩⟩
    | succ m =>
      obtain rfl : i' = (m : Int) := by omega
      have hm : m < zs.length := by omega
      have hcx := (World.cell?_of_block (a := ⟨b, m, none⟩) hnx2).trans (hc m hm)
      obtain ⟨z, hz⟩ : ∃ z, zs.getD m ⟨0, by decide⟩ = z := ⟨_, rfl⟩
      rw [hz] at hcx
      have hlen : (bwd zs k).length = k := by
        clear hJs hk
        induction k with
        | zero => rfl
        | succ k ih => rw [bwd, List.length_append, ih]; rfl
      have hstep : bwd zs (k + 1) = bwd zs k ++ [(m, z)] := by
        rw [bwd, show zs.length - 1 - k = m by omega, hz]
      obtain ⟨fn, tmps, assign, body, hy, hR⟩ := hY _ (m, z) wr hJs (by omega)
      simp only [encPc] at hy hR
      have HRE := Aside0.mk hreach
      have HS := Aside0.mk hstep
      have HK := Aside0.mk hk
      have HJ := Aside0.mk hJs
      have HX1 := Aside0.mk hnx1
      have HX2 := Aside0.mk hnx2
      clear hstep hlen hz hJs hnx1 hnx2 hk hreach hm
      clear hi hc
      have hm2 : (m : Int) < (zs.length : Int) := by have := HK.out; omega
      gi_wp2
      refine hR.mono ?_
      rintro e W3 (⟨rfl, hJ3, hk3⟩ | ⟨rfl, hJx3⟩)
      · gi_wp2
        go_roundw
        case rel => exact ⟨m, k + 1, (m : Int) - 1, by have := HRE.out; have := HK.out; rw [show wrap64 ((m : Int) - 1) = (m : Int) - 1 by unfold wrap64; omega], rfl, by have := HK.out; omega, by rw [HS.out]; exact hJ3, (hKp _ _ hk3 _ (.inl rfl)).trans HX1.out, (hKp _ _ hk3 _ (.inr rfl)).trans HX2.out⟩
        case measure => have := HRE.out; have := HK.out; simp [intOf]; rw [show wrap64 ((m : Int) - 1) = (m : Int) - 1 by unfold wrap64; omega]; omega
      · gi_wp2
        refine bodyPost_ret (results_none rfl _ _ _) rfl ?_
        exact ⟨⟨_, rfl⟩, .inr ⟨_, ⟨k + 1, HS.out.symm⟩, hJx3⟩⟩

set_option maxRecDepth 100000 in
set_option maxHeartbeats 1000000 in
theorem back1_nil_in (F : Fence) (n : Nat) (h7 : F.fn 174) (hro : F.round = none) (l Bs : Nat) (J : List Pc → World → Prop) (W : World) (hBs : W.cell? ⟨Bs, 0, none⟩ = some (.slice none 0 0)) (h0 : J [] W) :
    CallsIn F n Tryz.prog 174 #[.func (.yield l) #[] #[], .pointer (some ⟨Bs, 0, none⟩)] W fun e W' => (∃ v, e = .returned v) ∧ J [] W' := by
  refine callsIn_of_wp Tryz.func174 rfl h7 ?_ hro
  simp only [Tryz.ntmps174, List.size_toArray, List.length_cons, List.length_nil, Nat.reduceAdd, Nat.reduceSub, Array.replicate_succ, Array.replicate_zero, List.push_toArray, List.append_toArray, List.nil_append, List.cons_append]
  gi_wp2
  gi_loopw [3] (fun i wr => i = .int .i64 (-1) ∧ J [] wr) (fun _ _ => 0)
  case atStart => exact ⟨rfl, h0⟩
  case round =>
    obtain ⟨rfl, hJs⟩ := hrel
    gi_wp2
    go_end0
    exact ⟨⟨_, rfl⟩, hJs⟩

set_option maxHeartbeats 1000000 in
theorem back_any (w : World) (a : Option Addr) (len cap : Nat) :
    Calls Tryz.prog 149 #[.slice a len cap] w fun e w' => e = .returned (.func (.func 174) #[] #[.pointer (some ⟨w.heap.size, 0, none⟩)]) ∧ w' = w.alloc (.cells #[.slice a len cap] 66) := by
  go_enter Tryz.func149, Tryz.ntmps149
  go_wp2
  go_ret
  exact ⟨rfl, rfl⟩

/-- slices.Backward over a row of pieces. -/
theorem back_stops (F : Fence) (n : Nat) (h7 : F.fn 174) (hro : F.round = none) (hn : 1 ≤ n) (Bs b cap : Nat) (zs : List { x : Nat // x < 4294967296 }) (hreach : zs.length ≤ 1000000) (Kp : World → World → Prop) (hKp : ∀ A B, Kp A B → ∀ k, k = Bs ∨ k = b → B.heap[k]? = A.heap[k]?) (w : World) (hBs : Bs < w.heap.size)
    (hc : w.cell? ⟨Bs, 0, none⟩ = some (.slice (some ⟨b, 0, none⟩) zs.length cap)) (hb : b < w.heap.size) (hcs : ∀ j, j < zs.length → w.cell? ⟨b, j, none⟩ = some (.int .u32 ((zs.getD j ⟨0, by decide⟩).1 : Int))) :
    SeqStopsK F n Tryz.prog 174 #[.pointer (some ⟨Bs, 0, none⟩)] encPc Kp (fun ys => ys = bwd zs zs.length) (fun pre => ∃ k, pre = bwd zs k) zs.length w := fun l J Jx W hW _ _ hY h0 => by
  exact back1_in F n h7 hro hn l Bs b cap zs hreach Kp hKp J Jx hY W ((hW.cell (p := ⟨Bs, 0, none⟩) hBs).trans hc) (fun j hj => (hW.cell (p := ⟨b, j, none⟩) hb).trans (hcs j hj)) h0

end Go.Proofs.YthknbknmlnnhcaaGreatDoor
