/- Walks: decimal.ten, shifted, times, reaches; bobbinref4.Power, ge. -/
import Derived.Test.YthknbknmlnnhcaaGreatDoorWt
import Derived.Test.YthknbknmlnnhcaaGreatDoorShelf
namespace Go.Proofs.YthknbknmlnnhcaaGreatDoor
open Go.RowKit Go.Proofs.YthknbknmlnnhcaaGreatDoorW.PrintWords Bob
set_option linter.unusedVariables false
set_option linter.unusedSimpArgs false

theorem repeat_one (c : UInt8) (n : Nat) : Lib.repeatL [c] n = List.replicate n c := by
  induction n with
  | zero => rfl
  | succ n ih => rw [Lib.repeatL, ih, List.replicate_succ]; rfl

theorem S_cat (a b : List UInt8) : S a ++ S b = S (a ++ b) := by
  apply ByteArray.ext
  simp [S]

set_option maxHeartbeats 400000 in
theorem ten_any (w : World) (z : Int) (h0 : -100000 ≤ z) (h1 : z ≤ 4000) : Calls Tryz.prog 85 #[.int .i64 z] w (RetNum (10 ^ z.toNat) w) := by
  obtain ⟨m, hm, hm2⟩ : ∃ m : Nat, max z 0 = (m : Int) ∧ m = z.toNat := ⟨z.toNat, by omega, rfl⟩
  have hm4 : m ≤ 4000 := by omega
  rw [← hm2]
  clear hm2
  go_enter Tryz.func85, Tryz.ntmps85
  go_wp2_with fail
  refine (Tryz.strings_Repeat { data := #[48] } m w (by omega) (by show 1 * m ≤ _; omega)).mono ?_
  rw [show ({ data := (Lib.repeatL ({ data := #[48] } : ByteArray).data.toList m).toArray } : ByteArray) = S (List.replicate m 48) by rw [show ({ data := #[48] } : ByteArray).data.toList = [48] from rfl, repeat_one]; rfl]
  rintro e w1 ⟨rfl, hb1⟩
  have HB1 := Aside0.mk hb1
  have hsz : (S (List.replicate m 48)).size = m := by rw [S_size, List.length_replicate]
  have hcat : ({ data := #[49] } : ByteArray) ++ S (List.replicate m 48) = S (49 :: List.replicate m 48) := S_cat [49] _
  generalize S (List.replicate m 48) = s1 at *
  clear hb1
  go_wp2_with fail
  refine (parse_any w1 (49 :: List.replicate m 48) (dd_rep m) (by simp) (by simp; omega)).mono ?_
  rw [num_rep]
  rintro e w2 ⟨v2, rfl, hr2, hb2⟩
  go_wp2_with fail
  go_ret
  exact ⟨v2, rfl, hr2, HB1.out.trans (hb2.mono HB1.out.size)⟩

set_option maxHeartbeats 400000 in
theorem shifted_l (w : World) (v : Value) (N m : Nat) (h : Rd w v (words N)) (hk : (words N).length ≤ 1000) (hm1 : m ≤ 30000) :
    Calls Tryz.prog 87 #[v, .int .i64 (m : Int)] w (RetNum (N * 2 ^ m) w) := by
  go_enter Tryz.func87, Tryz.ntmps87
  go_wp2_with (go_at_call 128; refine (shl_any _ _ N m h hk hm1).mono ?_; rintro e w1 ⟨v1, rfl, hr, hb⟩)
  go_ret
  exact ⟨v1, rfl, hr, hb⟩

set_option maxHeartbeats 400000 in
theorem times_any (w : World) (v1 v2 : Value) (N1 N2 : Nat) (h1 : Rd w v1 (words N1)) (h2 : Rd w v2 (words N2)) (hk1 : (words N1).length ≤ 1000) (hk2 : (words N2).length ≤ 1000) :
    Calls Tryz.prog 84 #[v1, v2] w (RetNum (N1 * N2) w) := by
  go_enter Tryz.func84, Tryz.ntmps84
  go_wp2_with (go_at_call 132; refine (mul_any _ _ _ N1 N2 h1 h2 hk1 hk2).mono ?_; rintro e w1 ⟨v1, rfl, hr, hb⟩)
  go_ret
  exact ⟨v1, rfl, hr, hb⟩

theorem bl_ten (n : Nat) : bl (10 ^ n) ≤ 4 * n + 1 := by
  refine bl_le_of ?_
  have h1 : (10 : Nat) ^ n ≤ 16 ^ n := Nat.pow_le_pow_left (by decide) _
  rw [Nat.pow_succ, Nat.pow_mul]
  have : 0 < (2 ^ 4) ^ n := Nat.pow_pos (by decide)
  show 10 ^ n < 16 ^ n * 2
  have h2 : 0 < 16 ^ n := Nat.pow_pos (by decide)
  omega
theorem words_ten (n : Nat) : (words (10 ^ n)).length ≤ n / 8 + 1 := words_len_bl (Nat.le_trans (bl_ten n) (by omega))

set_option maxHeartbeats 400000 in
theorem power_any (w : World) (n : Nat) (h1 : n ≤ 4000) : Calls Tryz.prog 92 #[.int .i64 (n : Int)] w (RetNum (10 ^ n) w) := by
  go_enter Tryz.func92, Tryz.ntmps92
  go_wp2_with fail
  refine (rof_any w 1 (by decide)).mono ?_
  rintro e w1 ⟨v1, rfl, hr, hb⟩
  have HR := Aside0.mk hr
  have HB := Aside0.mk hb
  clear hr hb
  go_wp2_with fail
  go_loopg [3, 4] n (fun k v3 v4 w' => ∃ (i : Nat), v4 = .int .i64 (i : Int) ∧ k + i = n ∧ Aside0 (Rd w' v3 (words (10 ^ i))) ∧ Aside0 (Below w.heap.size w w'))
  case atStart => exact ⟨0, rfl, rfl, HR, HB⟩
  case round =>
    clear HR HB
    obtain ⟨i, rfl, hki, HR, HB⟩ := hrel
    have HQ := Aside0.mk hki
    by_cases hlt : i < n
    · have HW := Aside0.mk (words_ten i)
      clear hki
      go_wp2_with fail
      refine (rof_any wr 10 (by decide)).mono ?_
      rintro e w2 ⟨v2, rfl, hr2, hb2⟩
      have HR2 := Aside0.mk hr2
      have HB2 := Aside0.mk hb2
      clear hr2 hb2
      go_wp2_with fail
      refine (rmul_any _ _ _ (10 ^ i) 10 (HR.out.below HB2.out) HR2.out (by have := HW.out; omega) (by rw [words_one (by decide) (by decide)]; simp)).mono ?_
      rintro e w3 ⟨v3, rfl, hr3, hb3⟩
      go_wp2_with fail
      go_roundg (gk - 1)
      case measure => have := HQ.out; omega
      case rel => exact ⟨i + 1, by go_num, by have := HQ.out; omega, ⟨by rw [Nat.pow_succ]; exact hr3⟩, ⟨(HB.out.trans (HB2.out.mono HB.out.size)).trans (hb3.mono (Nat.le_trans HB.out.size HB2.out.size))⟩⟩
    · obtain rfl : i = n := by omega
      go_wp2_with fail
      go_ret
      exact ⟨_, rfl, HR.out, HB.out⟩

end Go.Proofs.YthknbknmlnnhcaaGreatDoor
