/- Walks: nat.more. -/
import Derived.Test.YthknbknmlnnhcaaGreatDoorWr
namespace Go.Proofs.YthknbknmlnnhcaaGreatDoor
open Go.RowKit Go.Proofs.YthknbknmlnnhcaaGreatDoorW.PrintWords Bob
set_option linter.unusedVariables false
set_option linter.unusedSimpArgs false

theorem more_step (l O : List Int) (i : Nat) (c X b a : Int) (hi : i < O.length) (hl : Dg l) (hX : l.getD i 0 = X) (hc : 0 ≤ c ∧ c < 4294967296) (hb : 0 ≤ b ∧ b < 4294967296)
    (h : val (O.take i) + 4294967296 ^ i * c.toNat = val (l.take i) * b.toNat + a.toNat) :
    val ((O.set i ((c + X * b) % 4294967296)).take (i + 1)) + 4294967296 ^ (i + 1) * ((c + X * b) / 4294967296).toNat = val (l.take (i + 1)) * b.toNat + a.toNat ∧
    (0 ≤ (c + X * b) / 4294967296 ∧ (c + X * b) / 4294967296 < 4294967296) ∧ (0 ≤ c + X * b ∧ c + X * b < 18446744073709551616) ∧ 0 ≤ X * b ∧ X * b < 18446744073709551616 := by
  have h1 := dg_getD hl i
  rw [val_set_take _ _ _ hi, val_take', hX, Nat.pow_succ]
  rw [hX] at h1
  obtain ⟨x, rfl⟩ := Int.eq_ofNat_of_zero_le h1.1
  obtain ⟨b, rfl⟩ := Int.eq_ofNat_of_zero_le hb.1
  obtain ⟨c, rfl⟩ := Int.eq_ofNat_of_zero_le hc.1
  have hp : x * b ≤ 4294967295 * 4294967295 := Nat.mul_le_mul (by omega) (by omega)
  have hpi : (x : Int) * (b : Int) = ((x * b : Nat) : Int) := by simp
  rw [hpi]
  simp only [Int.toNat_natCast] at *
  generalize hP : x * b = P at *
  refine ⟨?_, ⟨by omega, by omega⟩, ⟨by omega, by omega⟩, by omega, by omega⟩
  have e : (((c : Int) + P) % 4294967296).toNat + 4294967296 * (((c : Int) + P) / 4294967296).toNat = c + P := by omega
  generalize (((c : Int) + P) % 4294967296).toNat = u at *
  generalize (((c : Int) + P) / 4294967296).toNat = v at *
  generalize val (O.take i) = V at *
  generalize val (l.take i) = W at *
  generalize 4294967296 ^ i = p at *
  have e2 : p * (u + 4294967296 * v) = p * (c + P) := by rw [e]
  subst hP
  grind

set_option maxRecDepth 100000 in
set_option maxHeartbeats 800000 in
theorem more_any (w : World) (base : Nat) (v : Value) (l : List Int) (b a : Int) (hd : Dg l) (h : Ow w base v l) (hbase : base ≤ w.heap.size) (hl : l.length ≤ 100000) (hb : 0 ≤ b ∧ b < 4294967296) (ha : 0 ≤ a ∧ a < 4294967296) :
    Calls Tryz.prog 130 #[v, .int .u32 b, .int .u32 a] w fun e w' => ∃ (v' : Value) (l' : List Int), e = .returned v' ∧ Ow w' base v' l' ∧ Dg l' ∧ l'.length ≤ l.length + 1 ∧ val l' = val l * b.toNat + a.toNat ∧ Below base w w' := by
  have hbw : IntKind.u64.wrap b = b := by rw [IntKind.wrap_u64]; omega
  have haw : IntKind.u64.wrap a = a := by rw [IntKind.wrap_u64]; omega
  have HD := Aside0.mk hd
  have HBB := Aside0.mk hb
  have HAA := Aside0.mk ha
  have HBS := Aside0.mk hbase
  obtain ⟨A, c, rfl⟩ := Kd.R_slice h
  obtain ⟨n, hn⟩ : ∃ n, n = l.length := ⟨_, rfl⟩
  rw [← hn] at h hl ⊢
  have HN := Aside0.mk hn
  have HO := Aside0.mk h
  clear h hd hb ha hn hbase
  go_enter Tryz.func130, Tryz.ntmps130
  go_wp2_with fail
  go_loopg [7, 14] n (fun k v7 v14 w' => ∃ (i : Nat) (cy : Int) (O : List Int), v14 = .int .i64 (i : Int) ∧ v7 = .int .u64 cy ∧ k + i = n ∧ Aside0 (O.length = n) ∧ Aside0 (Dg O) ∧ Aside0 (0 ≤ cy ∧ cy < 4294967296) ∧ Aside0 (val (O.take i) + 4294967296 ^ i * cy.toNat = val (l.take i) * b.toNat + a.toNat) ∧ Aside0 (∀ k, i ≤ k → O.getD k 0 = l.getD k 0) ∧ Aside0 (Ow w' base (.slice A n c) O) ∧ Aside0 (Below base w w'))
  case atStart => exact ⟨0, a, l, rfl, rfl, rfl, ⟨HN.out.symm⟩, HD, HAA, ⟨by simp [val]⟩, ⟨fun _ _ => rfl⟩, HO, ⟨Below.refl _ _⟩⟩
  case round =>
    clear HO
    obtain ⟨i, cy, O, rfl, rfl, hki, HL, HOD, HCY, HV, HE, HO, HB⟩ := hrel
    have HQ := Aside0.mk hki
    by_cases hlt : i < n
    · obtain ⟨g, cap, he, hg1, hg2⟩ := HO.out.form (by rw [HL.out]; omega)
      injection he with e1 e2 e3
      subst e1 e3
      have HG := Aside0.mk hg1
      obtain ⟨X, HX, ho1, ho2⟩ := HO.out.cell i hlt
      have HX2 : Aside0 (l.getD i 0 = X) := ⟨(HE.out i (Nat.le_refl _)).symm.trans HX.out⟩
      have DX := Aside0.mk (HX2.out ▸ dg_getD HD.out i : 0 ≤ X ∧ X < 4294967296)
      have hs := more_step l O i cy X b a (by rw [HL.out]; exact hlt) HD.out HX2.out HCY.out HBB.out HV.out
      obtain ⟨P, hP⟩ : ∃ P, P = X * b := ⟨_, rfl⟩
      obtain ⟨T, hT⟩ : ∃ T, T = cy + X * b := ⟨_, rfl⟩
      rw [← hT] at hs
      have HS := Aside0.mk hs
      have hw1 : IntKind.u64.wrap X = X := by have := DX.out; rw [IntKind.wrap_u64]; omega
      have hw4 : IntKind.u64.wrap (X * b) = P := by rw [IntKind.wrap_u64, hP]; omega
      have hw5 : IntKind.u64.wrap (cy + P) = T := by rw [IntKind.wrap_u64, hT, hP]; omega
      clear hs hT hP hg1 hg2 e2
      go_wp2_with fail
      go_roundg (gk - 1)
      case measure => have := HQ.out; omega
      case rel => exact ⟨i + 1, _, O.set i (T % 4294967296), by go_num, rfl, by have := HQ.out; omega, ⟨by rw [List.length_set]; exact HL.out⟩, ⟨dg_set HOD.out _ _ (by omega)⟩, ⟨HS.out.2.1⟩, ⟨HS.out.1⟩, ⟨fun k hk => by rw [getD_set _ _ _ _ (by have := HL.out; omega), if_neg (by omega)]; exact HE.out k (by omega)⟩, ⟨HO.out.put i _⟩, ⟨HB.out.setCell HG.out _⟩⟩
    · obtain rfl : i = n := by omega
      clear hlt hki
      have HV2 := Aside0.mk (show val O + 4294967296 ^ i * cy.toNat = val l * b.toNat + a.toNat by
        have := HV.out
        rwa [List.take_of_length_le (by rw [HL.out]; exact Nat.le_refl _), List.take_of_length_le (by rw [← HN.out]; exact Nat.le_refl _)] at this)
      by_cases hz : cy = 0
      · subst hz
        go_wp2_with fail
        go_ret
        exact ⟨_, O, rfl, HO.out, HOD.out, by rw [HL.out]; omega, by have := HV2.out; simpa using this, HB.out⟩
      · have hc0 : (0 : Int) < cy := by have := HCY.out; omega
        have hcm : cy % 4294967296 = cy := by have := HCY.out; omega
        go_wp2_with (at_builtin; refine app_one (w0 := w) (.tmp 36) (.tmp 39) base rfl rfl _ O cy rfl rfl HO.out HB.out (Nat.le_trans HBS.out HB.out.size) (by have := HL.out; omega) ?_; intro v9 w9 ho9 hb9; have HO9 := Aside0.mk ho9; have HB9 := Aside0.mk hb9; clear ho9 hb9)
        go_ret
        exact ⟨_, O ++ [cy], rfl, HO9.out, dg_append.2 ⟨HOD.out, dg_cons.2 ⟨HCY.out, dg_nil⟩⟩, by rw [List.length_append, HL.out]; exact Nat.le_refl _, by rw [val_append, HL.out]; simp only [val, Nat.mul_zero, Nat.add_zero]; exact HV2.out, HB9.out⟩

end Go.Proofs.YthknbknmlnnhcaaGreatDoor
