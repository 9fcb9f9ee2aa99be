/- Walks: nat.Parse. -/
import Derived.Test.YthknbknmlnnhcaaGreatDoorWs
import Derived.Test.YthknbknmlnnhcaaGreatDoorM
namespace Go.Proofs.YthknbknmlnnhcaaGreatDoor
open Go.RowKit Go.Proofs.YthknbknmlnnhcaaGreatDoorW.PrintWords Bob
set_option linter.unusedVariables false
set_option linter.unusedSimpArgs false

theorem S_toList (l : List UInt8) : (S l).toList = l := by
  rw [ByteArray.toList_eq]; rfl
theorem S_toList_ne {l : List UInt8} (h : l ≠ []) : (S l).toList.isEmpty = false := by
  rw [S_toList]
  cases l with
  | nil => exact absurd rfl h
  | cons a l => rfl
theorem slice_to (l : List UInt8) (k : Nat) (hk : k ≤ l.length) : ∀ w, (Instr.slice 9 (.string (S l)) none (some (.int .i64 (k : Int))) none).run Tryz.prog w = .ok (.string (S (l.take k))) w := fun w => by
  rw [run_slice_string_h w 9 (S l) Tryz.underlying9 .i64 k (by omega) (by rw [S_size]; omega), Int.toNat_natCast, S_take]
theorem slice_from (l : List UInt8) (k : Nat) (hk : k ≤ l.length) : ∀ w, (Instr.slice 9 (.string (S l)) (some (.int .i64 (k : Int))) none none).run Tryz.prog w = .ok (.string (S (l.drop k))) w := fun w => by
  rw [run_slice_string_l w 9 (S l) Tryz.underlying9 .i64 k (by omega) (by rw [S_size]; omega), Int.toNat_natCast, S_drop]

set_option maxRecDepth 100000 in
set_option maxHeartbeats 2000000 in
theorem parse_any (w : World) (l : List UInt8) (hd : DD l) (hl0 : l ≠ []) (hl : l.length ≤ 5000) :
    Calls Tryz.prog 83 #[.string (S l)] w (RetPair (num l) w) := by
  have HD := Aside0.mk hd
  have HL := Aside0.mk hl
  have hpos : 0 < l.length := by rcases l with _ | ⟨a, l⟩; exact absurd rfl hl0; simp
  obtain ⟨L, hL⟩ : ∃ L, L = l.length := ⟨_, rfl⟩
  have HLL := Aside0.mk hL
  have hsz : (S l).size = L := by rw [S_size, hL]
  rw [← hL] at hpos hl
  have hne : (S l).toList.isEmpty = false := S_toList_ne hl0
  clear hL hd hl0
  go_enter Tryz.func83, Tryz.ntmps83
  go_wp2_with fail
  go_loopg [12] L (fun k v12 w' => ∃ (i : Nat), v12 = .int .i64 (i : Int) ∧ k + i = L ∧ Aside0 (w = w'))
  case atStart => exact ⟨0, rfl, rfl, ⟨rfl⟩⟩
  case round =>
    obtain ⟨i, rfl, hki, HW⟩ := hrel
    obtain rfl := HW.out
    clear HW
    by_cases hlt : i < L
    · obtain ⟨X, hX⟩ : ∃ X : Int, X = ((l.getD i 0).toNat : Int) := ⟨_, rfl⟩
      have hix := idx_str (P := Tryz.prog) 9 Tryz.underlying9 l i (by have := HLL.out; omega) X hX
      have hxb : 48 ≤ X ∧ X ≤ 57 := by have := dd_getD HD.out i (by have := HLL.out; omega); omega
      have hx1 := hxb.1
      have hx2 := hxb.2
      clear hX hxb
      go_wp2_with fail
      go_roundg (gk - 1)
      case measure => omega
      case rel => exact ⟨i + 1, by go_num, by omega, ⟨rfl⟩⟩
    · obtain rfl : i = L := by omega
      clear hlt hki
      go_wp2_with fail
      go_loopg [0, 5] i (fun k v0 v5 w' => ∃ (m : List UInt8) (O : List Int), v0 = .string (S m) ∧ m.length ≤ k ∧ m.length ≤ 5000 ∧ Aside0 (DD m) ∧ Aside0 (Dg O) ∧ Aside0 (O.length + m.length ≤ i) ∧ Aside0 (val O * 10 ^ m.length + num m = num l) ∧ Aside0 (Ow w' w.heap.size v5 O) ∧ Aside0 (Below w.heap.size w w'))
      case atStart => exact ⟨l, [], rfl, by have := HLL.out; omega, HL.out, HD, ⟨dg_nil⟩, ⟨by have := HLL.out; simp; omega⟩, ⟨by simp [val]⟩, ⟨Ow.nil _ _⟩, ⟨Below.refl _ _⟩⟩
      case round =>
        obtain ⟨m, O, rfl, hk, hm, HMD, HOD, HOL, HV, HO, HB⟩ := hrel
        obtain ⟨q, hq⟩ : ∃ q, q = m.length := ⟨_, rfl⟩
        have hszm : (S m).size = q := by rw [S_size, hq]
        have HQ := Aside0.mk hq
        rw [← hq] at hk hm
        clear hq
        by_cases hq0 : q = 0
        · subst hq0
          have hm0 : m = [] := List.length_eq_zero_iff.1 HQ.out.symm
          have HV2 : Aside0 (val O = num l) := ⟨by have := HV.out; rw [hm0] at this; simpa [num] using this⟩
          have HW2 : Aside0 ((words (val O)).length ≤ 2000) := ⟨by rw [HV2.out]; have := words_num HD.out; have := HL.out; omega⟩
          go_wp2_with (go_at_call 131; refine (fits_any _ _ O HOD.out HO.out.reads HW2.out).mono ?_; rw [HV2.out]; rintro e w9 ⟨v9, rfl, hr9, hb9⟩)
          exact bodyPost_ret (v := .tuple #[v9, .int .i64 0]) (by simp [results, Tryz.results83, go_sem]) rfl ⟨v9, rfl, hr9, HB.out.trans (hb9.mono HB.out.size)⟩
        · obtain ⟨n, hn1, hn2, hn3⟩ : ∃ n : Nat, n ≤ q ∧ 1 ≤ n ∧ n ≤ 9 ∧ min (q : Int) 9 = (n : Int) := ⟨min q 9, by omega, by omega, by omega, by omega⟩
          have hmin := hn3.2
          have hn9 := hn3.1
          go_wp2_with fail
          obtain ⟨wo, rfl⟩ : ∃ wo : World, wo = wr := ⟨_, rfl⟩
          obtain ⟨g0, rfl⟩ : ∃ g0 : Nat, g0 = gk := ⟨_, rfl⟩
          go_loopg [7, 8, 40] n (fun k v7 v8 v40 w' => ∃ (t : Nat) (y x : Int), v40 = .int .i64 (t : Int) ∧ v7 = .int .u32 y ∧ v8 = .int .u32 x ∧ k + t = n ∧ 1 ≤ y ∧ y ≤ 1000000000 ∧ 0 ≤ x ∧ x < y ∧ Aside0 (y = ((10 ^ t : Nat) : Int)) ∧ Aside0 (x = (num (m.take t) : Int)) ∧ Aside0 (Below wo.heap.size wo w'))
          case atStart => exact ⟨0, 1, 0, rfl, rfl, rfl, rfl, by omega, by omega, by omega, by omega, ⟨rfl⟩, ⟨rfl⟩, ⟨Below.refl _ _⟩⟩
          case round =>
            obtain ⟨t, y, x, rfl, rfl, rfl, hkt, hy1, hy2, hx0, hxy, HY, HX, HBW⟩ := hrel
            have HT := Aside0.mk hkt
            by_cases hlt : t < n
            · obtain ⟨X, hX⟩ : ∃ X : Int, X = ((m.getD t 0).toNat : Int) := ⟨_, rfl⟩
              have hix := idx_str (P := Tryz.prog) 9 Tryz.underlying9 m t (by have := HQ.out; omega) X hX
              have hxb : 48 ≤ X ∧ X ≤ 57 := by have := dd_getD HMD.out t (by have := HQ.out; omega); omega
              have hx1 := hxb.1
              have hx2 := hxb.2
              have HXX := Aside0.mk hX
              have hy3 : y ≤ 100000000 := by
                rw [HY.out]
                have h1 : 10 ^ t ≤ 10 ^ 8 := Nat.pow_le_pow_right (by decide) (by omega)
                omega
              clear hX hxb hkt
              go_wp2_with fail
              go_quiet (fail)
              go_wp2_with fail
              go_roundg (gk - 1)
              case measure => have := HT.out; omega
              case rel => exact ⟨t + 1, y * 10, x * 10 + (X - 48), by go_num, rfl, rfl, by have := HT.out; omega, by omega, by omega, by omega, by omega, ⟨by rw [HY.out, Nat.pow_succ]; simp⟩, ⟨by rw [num_take m t (by have := HQ.out; omega), HX.out]; have := HXX.out; omega⟩, ⟨by repeat first | exact HBW.out | apply pw_below_drewN⟩⟩
            · obtain rfl : t = n := by omega
              clear hlt hkt
              have HDL := Aside0.mk (show (m.drop t).length = q - t by rw [List.length_drop, HQ.out])
              have hsl := slice_from m t (by have := HQ.out; omega)
              have hbb : 0 ≤ y ∧ y < 4294967296 := by omega
              have haa : 0 ≤ x ∧ x < 4294967296 := by omega
              have HOW := Aside0.mk (HO.out.below HBW.out)
              go_wp2_with (go_at_call 130; refine (more_any _ w.heap.size _ O y x HOD.out HOW.out (Nat.le_trans HB.out.size HBW.out.size) (by have := HOL.out; omega) hbb haa).mono ?_; rintro e w9 ⟨v9, O9, rfl, ho9, hd9, hl9, hv9, hb9⟩; have HO9 := Aside0.mk ho9; have HD9 := Aside0.mk hd9; have HL9 := Aside0.mk hl9; have HV9 := Aside0.mk hv9; have HB9 := Aside0.mk hb9; clear ho9 hd9 hl9 hv9 hb9)
              go_roundg (q - t)
              case measure => omega
              case rel => exact ⟨m.drop t, O9, rfl, by rw [HDL.out]; exact Nat.le_refl _, by rw [HDL.out]; omega, ⟨dd_drop HMD.out t⟩, HD9, ⟨by rw [HDL.out]; have := HOL.out; have := HL9.out; have := HQ.out; omega⟩, ⟨by
                  rw [HV9.out, HDL.out, HY.out, HX.out, ← HV.out, num_split m t (by have := HQ.out; omega), ← HQ.out]
                  simp only [Int.toNat_natCast]
                  rw [Nat.add_mul, Nat.mul_assoc, ← Nat.pow_add, show t + (q - t) = q by omega, Nat.add_assoc]⟩, HO9, ⟨(HB.out.trans (HBW.out.mono HB.out.size)).trans HB9.out⟩⟩

end Go.Proofs.YthknbknmlnnhcaaGreatDoor
