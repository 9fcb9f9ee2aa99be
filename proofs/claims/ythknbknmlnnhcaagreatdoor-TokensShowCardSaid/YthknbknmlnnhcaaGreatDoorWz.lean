/- Walks: soft.Split. -/
import Derived.Test.YthknbknmlnnhcaaGreatDoorWy
namespace Go.Proofs.YthknbknmlnnhcaaGreatDoor
open Go.RowKit Go.Proofs.YthknbknmlnnhcaaGreatDoorW.PrintWords Bob
set_option linter.unusedVariables false
set_option linter.unusedSimpArgs false

theorem fM_lt (a : Nat) : fM a < 9007199254740992 := by unfold fM; split <;> omega

theorem keep2 {W w9 : World} {o : Obj} {a : Addr} {v : Value} (hb : Below ((W.alloc o).drew).heap.size ((W.alloc o).drew) w9) (h : W.cell? a = some v) (hg : a.block < W.heap.size) : w9.cell? a = some v := by
  rw [hb.cell (p := a) (by simp; omega), (((Below.refl W.heap.size W).alloc (Nat.le_refl _) o).drew).cell hg]; exact h

set_option maxRecDepth 100000 in
set_option maxHeartbeats 800000 in
theorem Split_any (w : World) (a : Nat) (h : a < 18446744073709551616) : Calls Tryz.prog 44 #[.int .u64 (a : Int)] w (RetSplit a w) := by
  have H := Aside0.mk h
  by_cases hf : fFin a
  · have h1 : decide (9218868437227405312 < a % 9223372036854775808) = false := decide_eq_false (by unfold fFin at hf; omega)
    have h2 : decide (a % 9223372036854775808 = 9218868437227405312) = false := decide_eq_false (by unfold fFin at hf; omega)
    have hm0 := fM_lt a
    have HF := Aside0.mk hf
    go_enter Tryz.func44, Tryz.ntmps44
    go_wp2_with fail
    refine (isNaN_any w a H.out).mono ?_
    rw [h1]
    rintro e w1 ⟨rfl, rfl⟩
    go_wp2_with fail
    refine (isInf_any w1 a H.out).mono ?_
    rw [h2]
    rintro e w2 ⟨rfl, rfl⟩
    go_wp2_with fail
    refine (split_any w2 a H.out).mono ?_
    obtain ⟨m, hm⟩ : ∃ m, m = fM a := ⟨_, rfl⟩
    obtain ⟨E, hE⟩ : ∃ E, E = fE a := ⟨_, rfl⟩
    obtain ⟨b, hb⟩ : ∃ b, b = fNeg a := ⟨_, rfl⟩
    rw [← hm, ← hE, ← hb]
    rw [← hm] at hm0
    rintro e w3 ⟨rfl, hb3⟩
    have HB3 := Aside0.mk hb3
    have HEQ := Aside0.mk (And.intro hm (And.intro hE hb))
    clear hm hE hb hb3 hf h1 h2
    go_wp2_with fail
    obtain ⟨x0, hx0⟩ : ∃ x0 : Int, IntKind.u32.wrap (m : Int) = x0 := ⟨_, rfl⟩
    obtain ⟨x1, hx1⟩ : ∃ x1 : Int, IntKind.u32.wrap ((m : Int) / 4294967296) = x1 := ⟨_, rfl⟩
    have hxa : x0 = (m : Int) % 4294967296 := by rw [← hx0, IntKind.wrap_u32]
    have hxb : x1 = (m : Int) / 4294967296 % 4294967296 := by rw [← hx1, IntKind.wrap_u32]
    have hd : Dg [x0, x1] := dg_cons.2 ⟨by omega, dg_cons.2 ⟨by omega, dg_nil⟩⟩
    have hv : val [x0, x1] = m := by simp only [val]; omega
    have HV := Aside0.mk (And.intro hd hv)
    clear hd hv hm0 hxa hxb
    have k0 : (w3.alloc (Obj.cells #[.bool b, .int .u64 (m : Int), .int .i64 E] 120)).cell? ⟨w3.heap.size, 0, none⟩ = some (.bool b) := by simp [World.cell?, World.alloc, -World.alloc_eq, Array.getElem?_push]
    have k1 : (w3.alloc (Obj.cells #[.bool b, .int .u64 (m : Int), .int .i64 E] 120)).cell? ⟨w3.heap.size, 1, none⟩ = some (.int .u64 (m : Int)) := by simp [World.cell?, World.alloc, -World.alloc_eq, Array.getElem?_push]
    have k2 : (w3.alloc (Obj.cells #[.bool b, .int .u64 (m : Int), .int .i64 E] 120)).cell? ⟨w3.heap.size, 2, none⟩ = some (.int .i64 E) := by simp [World.cell?, World.alloc, -World.alloc_eq, Array.getElem?_push]
    have hbw : Below w2.heap.size w2 (w3.alloc (Obj.cells #[.bool b, .int .u64 (m : Int), .int .i64 E] 120)) := below_alloc HB3.out _
    have hgs : w3.heap.size < (w3.alloc (Obj.cells #[.bool b, .int .u64 (m : Int), .int .i64 E] 120)).heap.size := by simp
    have HBW := Aside0.mk hbw
    clear hbw
    revert k0 k1 k2 HBW hgs
    generalize (w3.alloc (Obj.cells #[.bool b, .int .u64 (m : Int), .int .i64 E] 120)) = W
    generalize w3.heap.size = g
    intro k0 k1 k2 hgs HBW
    go_region_held3 (fun w' => w'.cell? ⟨g, 0, none⟩ = some (.bool b) ∧ w'.cell? ⟨g, 1, none⟩ = some (.int .u64 (m : Int)) ∧ w'.cell? ⟨g, 2, none⟩ = some (.int .i64 E)) (first | go_keep | (refine ⟨keep2 hb9 k0 hgs, keep2 hb9 k1 hgs, keep2 hb9 k2 hgs⟩))
      (first | (go_at_call 97; refine (norm_any _ _ [x0, x1] HV.out.1 (Ow.lit W W.heap.size [x0, x1] (Nat.le_refl _) (by simp)).drew.reads (by simp)).mono ?_; rw [HV.out.2]; rintro e w9 ⟨v9, rfl, hr9, hb9⟩; have HR9 := Aside0.mk hr9; have HB9 := Aside0.mk hb9; clear hr9))
    go_wp2_with fail
    refine bodyPost_ret (v := .tuple #[.bool b, v9, .int .i64 E, .bool true]) (by simp [results, Tryz.results44, go_sem]) rfl ?_
    exact ⟨fun _ => ⟨v9, by rw [HEQ.out.2.1, HEQ.out.2.2], by rw [← HEQ.out.1]; exact HR9.out, HBW.out.trans ((((Below.refl W.heap.size W).alloc (Nat.le_refl _) _).drew.trans (HB9.out.mono (by simp))).mono HBW.out.size)⟩, fun h => absurd HF.out h⟩
  · by_cases hn : 9218868437227405312 < a % 9223372036854775808
    · have h1 : decide (9218868437227405312 < a % 9223372036854775808) = true := decide_eq_true hn
      go_enter Tryz.func44, Tryz.ntmps44
      go_wp2_with fail
      refine (isNaN_any w a H.out).mono ?_
      rw [h1]
      rintro e w1 ⟨rfl, rfl⟩
      go_wp2_with fail
      refine bodyPost_ret (v := .tuple #[.bool false, .slice none 0 0, .int .i64 0, .bool false]) (by simp [results, Tryz.results44, go_sem]) rfl ?_
      exact ⟨fun h => absurd h hf, fun _ => ⟨rfl, Below.refl _ _⟩⟩
    · have h1 : decide (9218868437227405312 < a % 9223372036854775808) = false := decide_eq_false hn
      have h2 : decide (a % 9223372036854775808 = 9218868437227405312) = true := decide_eq_true (by unfold fFin at hf; omega)
      go_enter Tryz.func44, Tryz.ntmps44
      go_wp2_with fail
      refine (isNaN_any w a H.out).mono ?_
      rw [h1]
      rintro e w1 ⟨rfl, rfl⟩
      go_wp2_with fail
      refine (isInf_any w1 a H.out).mono ?_
      rw [h2]
      rintro e w2 ⟨rfl, rfl⟩
      go_wp2_with fail
      refine bodyPost_ret (v := .tuple #[.bool false, .slice none 0 0, .int .i64 0, .bool false]) (by simp [results, Tryz.results44, go_sem]) rfl ?_
      exact ⟨fun h => absurd h hf, fun _ => ⟨rfl, Below.refl _ _⟩⟩

end Go.Proofs.YthknbknmlnnhcaaGreatDoor
