/- Walks: nat.short, nat.moved. -/
import Derived.Test.YthknbknmlnnhcaaGreatDoorWd
namespace Go.Proofs.YthknbknmlnnhcaaGreatDoor
open Go.RowKit Go.Proofs.YthknbknmlnnhcaaGreatDoorW.PrintWords Bob
set_option linter.unusedVariables false
set_option linter.unusedSimpArgs false

set_option maxHeartbeats 400000 in
theorem short_any (w : World) (v : Value) (l : List Int) (d : Int) (hd : Dg l) (h : Rd w v l) (hl : l.length ≤ 100000) (hd0 : 0 < d ∧ d < 4294967296) :
    Calls Tryz.prog 135 #[v, .int .u32 d] w fun e w' => ∃ (v' : Value) (Q : List Int) (r : Int), e = .returned (.tuple #[v', .int .u32 r]) ∧ Rd w' v' Q ∧ Dg Q ∧ Q.length = l.length ∧ val l = val Q * d.toNat + r.toNat ∧ (0 ≤ r ∧ r < d) ∧ Below w.heap.size w w' := by
  obtain ⟨n, A, c, rfl, HL, hc, hm, HC⟩ := h.elim
  have hb1 : n ≤ 100000 := HL.out ▸ hl
  have HD := Aside0.mk hd
  have HD0 := Aside0.mk hd0
  clear h hd hd0 hl hm
  go_enter Tryz.func135, Tryz.ntmps135
  go_wp2_with (refine mk_u32 (.tmp 8) (.tmp 8) rfl rfl rfl _ rfl rfl ?m1 ?m2 ?_)
  case m1 => omega
  case m2 => omega
  intro v5 w5 ho hb3
  obtain ⟨A5, c5, rfl⟩ := Kd.R_slice ho
  rw [List.length_replicate] at ho ⊢
  have HB5 := Aside0.mk hb3
  have HO := Aside0.mk ho
  clear ho hb3
  first | rw [Int.toNat_natCast] | skip
  go_wp2_with fail
  go_loopg [5, 6] n (fun k v5 v6 w' => ∃ (j : Nat) (i r : Int) (Q : List Int), v6 = .int .i64 i ∧ v5 = .int .u32 r ∧ i = (j : Int) - 1 ∧ j ≤ k ∧ j ≤ n ∧ Aside0 (Q.length = n) ∧ Aside0 (Dg Q) ∧ Aside0 (0 ≤ r ∧ r < d) ∧ Aside0 (val (l.drop j) = val (Q.drop j) * d.toNat + r.toNat) ∧ Aside0 (Ow w' w.heap.size (.slice A5 n c5) Q) ∧ Aside0 (Below w.heap.size w w'))
  case atStart => exact ⟨n, _, 0, _, rfl, rfl, rfl, Nat.le_refl _, Nat.le_refl _, ⟨List.length_replicate⟩, ⟨dg_replicate _⟩, ⟨by have := HD0.out; omega⟩, ⟨by rw [List.drop_of_length_le (by rw [← HL.out]; exact Nat.le_refl _), List.drop_of_length_le (by rw [List.length_replicate]; exact Nat.le_refl _)]; simp [val]⟩, HO, HB5⟩
  case round =>
    clear HO HB5
    obtain ⟨j, i, r, Q, rfl, rfl, hi, hk, hn, HQL, HQD, HR, HV, HO, HB5⟩ := hrel
    cases j with
    | zero =>
      obtain rfl : i = -1 := by omega
      clear hi
      go_wp2_with fail
      exact bodyPost_ret (v := .tuple #[.slice A5 n c5, .int .u32 r]) (by simp [results, Tryz.results135, go_sem]) rfl ⟨_, Q, r, rfl, HO.out.reads, HQD.out, by rw [HQL.out, HL.out], by simpa using HV.out, HR.out, HB5.out⟩
    | succ m =>
      obtain rfl : i = (m : Int) := by omega
      clear hi
      obtain ⟨ad1, X, rfl, HX, hx⟩ := C_at (Kd.C_below HC.out HB5.out) m (by omega)
      obtain ⟨g, cap, he, hg1, hg2⟩ := HO.out.form (by rw [HQL.out]; omega)
      injection he with e1 e2 e3
      subst e1 e3
      obtain ⟨Z, _, ho1, ho2⟩ := HO.out.cell m (by omega)
      have HG := Aside0.mk hg1
      have HS := Aside0.mk (short_step l Q m d r X HD.out (by have := HQL.out; omega) HX.out HR.out HD0.out.2 HV.out)
      have DX := Aside0.mk (HX.out ▸ dg_getD HD.out m : 0 ≤ X ∧ X < 4294967296)
      clear hg1 hg2 e2
      go_wp2_with (go_at_call 148; refine (div32_any _ _ _ _ HR.out.1 DX.out ⟨HR.out.2, HD0.out.2⟩).mono ?_; rintro e w9 ⟨rfl, hb9⟩; have HB9 := Aside0.mk hb9; have HO9 := Aside0.mk (HO.out.below hb9); clear hb9; obtain ⟨Z9, _, ho19, ho29⟩ := HO9.out.cell m (by omega))
      go_roundg m
      case measure => omega
      case rel => exact ⟨m, _, _, Q.set m ((r * 4294967296 + X) / d), rfl, rfl, rfl, Nat.le_refl _, by omega, ⟨by rw [List.length_set]; exact HQL.out⟩, ⟨dg_set HQD.out _ _ HS.out.2.1⟩, ⟨HS.out.2.2⟩, ⟨HS.out.1⟩, ⟨HO9.out.put m _⟩, ⟨(HB5.out.trans (HB9.out.mono HB5.out.size)).setCell HG.out _⟩⟩

set_option maxHeartbeats 400000 in
theorem moved_any (w : World) (v : Value) (l : List Int) (s : Nat) (hd : Dg l) (h : Rd w v l) (hl : l.length ≤ 100000) (hs : s < 32) :
    Calls Tryz.prog 137 #[v, .int .i64 (s : Int)] w fun e w' => ∃ (v' : Value) (O : List Int), e = .returned v' ∧ Ow w' w.heap.size v' O ∧ Dg O ∧ O.length = l.length + 1 ∧ val O = val l * 2 ^ s ∧ Below w.heap.size w w' := by
  obtain ⟨n, A, c, rfl, HL, hc, hm, HC⟩ := h.elim
  have hb1 : n ≤ 100000 := HL.out ▸ hl
  have HD := Aside0.mk hd
  have HS0 := Aside0.mk hs
  clear h hd hl hm
  go_enter Tryz.func137, Tryz.ntmps137
  go_wp2_with (refine mk_u32 (.tmp 11) (.tmp 11) rfl rfl rfl _ rfl rfl ?m1 ?m2 ?_)
  case m1 => omega
  case m2 => omega
  intro v5 w5 ho hb3
  obtain ⟨g, cap, rfl, hg1, hg2⟩ := ho.form (by simp)
  rw [List.length_replicate] at ho ⊢
  have HB5 := Aside0.mk hb3
  have HO := Aside0.mk ho
  have HG := Aside0.mk hg1
  clear ho hb3 hg1 hg2
  go_wp2_with fail
  go_loopg [15] n (fun k v15 w' => ∃ (i : Nat) (O : List Int), v15 = .int .i64 (i : Int) ∧ k + i = n ∧ Aside0 (O.length = n + 1) ∧ Aside0 (Dg O) ∧ Aside0 (val (O.take (i + 1)) = val (l.take i) * 2 ^ s) ∧ Aside0 (O.getD i 0 < 2 ^ s) ∧ Aside0 (Ow w' w.heap.size (.slice (some ⟨g, 0, none⟩) (n + 1) cap) O) ∧ Aside0 (Below w.heap.size w w'))
  case atStart => exact ⟨0, _, rfl, rfl, ⟨List.length_replicate⟩, ⟨dg_replicate _⟩, ⟨by simp [val]⟩, ⟨by rw [List.getD_eq_getElem?_getD, List.getElem?_replicate]; have := Int.pow_pos (n := 2) (m := s) (by decide); split <;> simpa using this⟩, HO, HB5⟩
  case round =>
    clear HO HB5
    obtain ⟨i, O, rfl, hki, HQL, HQD, HV, HT, HO, HB5⟩ := hrel
    have HQ := Aside0.mk hki
    by_cases hlt : i < n
    · obtain ⟨ad1, X, rfl, HX, hx⟩ := C_at (Kd.C_below HC.out HB5.out) i hlt
      obtain ⟨Z, HZ, ho1, ho2⟩ := HO.out.cell i (by omega)
      obtain ⟨Z2, HZ2, ho3, ho4⟩ := HO.out.cell (i + 1) (by omega)
      have DX := Aside0.mk (HX.out ▸ dg_getD HD.out i : 0 ≤ X ∧ X < 4294967296)
      have DZ := Aside0.mk (HZ.out ▸ dg_getD HQD.out i : 0 ≤ Z ∧ Z < 4294967296)
      obtain ⟨x, rfl⟩ := Int.eq_ofNat_of_zero_le DX.out.1
      obtain ⟨z, rfl⟩ := Int.eq_ofNat_of_zero_le DZ.out.1
      have hw1 : IntKind.u64.wrap (x : Int) = x := by have := DX.out; rw [IntKind.wrap_u64]; omega
      have hzz : z < 2 ^ s := by
        have h1 := HT.out
        rw [HZ.out] at h1
        have h2 : ((2 ^ s : Nat) : Int) = (2 : Int) ^ s := by simp
        omega
      have hst := moved_step l O i s x z HS0.out (by have := HQL.out; omega) HX.out (by have := DX.out; omega) HZ.out hzz HV.out
      obtain ⟨T, hT⟩ : ∃ T : Nat, T = x * 2 ^ s := ⟨_, rfl⟩
      obtain ⟨L, hL⟩ : ∃ L : Nat, L = z + T % 4294967296 := ⟨_, rfl⟩
      obtain ⟨H, hH⟩ : ∃ H : Nat, H = T / 4294967296 := ⟨_, rfl⟩
      have hTi : (T : Int) = (x : Int) * 2 ^ s := by rw [hT]; simp
      have hw2 : IntKind.u64.wrap ((x : Int) * 2 ^ s) = (T : Int) := by
        rw [← hTi, IntKind.wrap_u64]; have := hst.2.2.2.2; rw [← hT] at this; omega
      have hw3 : bits .or .u32 (z : Int) ((T : Int) % 4294967296) = (L : Int) := by
        obtain ⟨t, ht, hlow⟩ := low_part (X := x) HS0.out
        rw [← hT] at ht hlow
        rw [show (T : Int) % 4294967296 = ((2 ^ s * t : Nat) : Int) by rw [← ht]; omega, u32_or_low hzz (by omega), hL, ht]
      have hw4 : (T : Int) / 4294967296 % 4294967296 = (H : Int) := by
        have := hst.2.2.2.1; rw [← hT] at this; rw [hH]; omega
      rw [← hT, ← hL, ← hH] at hst
      have HSt := Aside0.mk hst
      have hs1 := HS0.out
      clear hst hzz hT hL hH hTi hki
      go_wp2_with fail
      go_roundg (gk - 1)
      case measure => have := HQ.out; omega
      case rel =>
        refine ⟨i + 1, (O.set i (L : Int)).set (i + 1) (H : Int), by go_num, by have := HQ.out; omega, ⟨by rw [List.length_set, List.length_set]; exact HQL.out⟩, ⟨dg_set (dg_set HQD.out _ _ (by have := HSt.out.2.1; omega)) _ _ (by have := HSt.out.2.2.2.1; omega)⟩, ⟨HSt.out.1⟩, ⟨?_⟩, ⟨(HO.out.put i _).put (i + 1) _⟩, ⟨(HB5.out.setCell HG.out _).setCell HG.out _⟩⟩
        rw [getD_set _ _ _ _ (by rw [List.length_set]; have := HQL.out; omega), if_pos rfl]
        have h2 : ((2 ^ s : Nat) : Int) = (2 : Int) ^ s := by simp
        have := HSt.out.2.2.1
        omega
    · obtain rfl : i = n := by omega
      clear hlt hki
      go_wp2_with fail
      go_ret
      exact ⟨_, O, rfl, HO.out, HQD.out, by rw [HQL.out, HL.out], by have := HV.out; rwa [List.take_of_length_le (by rw [HQL.out]; exact Nat.le_refl _), List.take_of_length_le (by rw [← HL.out]; exact Nat.le_refl _)] at this, HB5.out⟩
end Go.Proofs.YthknbknmlnnhcaaGreatDoor
