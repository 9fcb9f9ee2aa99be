/- Walks: bobbinref2.small, Divide. -/
import Derived.Test.YthknbknmlnnhcaaGreatDoorWl
namespace Go.Proofs.YthknbknmlnnhcaaGreatDoor
open Go.RowKit Go.Proofs.YthknbknmlnnhcaaGreatDoorW.PrintWords Bob
set_option linter.unusedVariables false
set_option linter.unusedSimpArgs false

set_option maxRecDepth 100000 in
set_option maxHeartbeats 800000 in
theorem rsmall_any (w : World) (v : Value) (N D : Nat) (h : Rd w v (words N)) (hl : (words N).length ≤ 100000) (hd0 : 0 < D ∧ D < 4294967296) :
    Calls Tryz.prog 152 #[v, .int .u32 (D : Int)] w fun e w' => ∃ (v1 v2 : Value), e = .returned (.tuple #[v1, v2]) ∧ Rd w' v1 (words (N / D)) ∧ Rd w' v2 (words (N % D)) ∧ Below w.heap.size w w' := by
  obtain ⟨n, A, c, rfl, HL, hc, hm, HC⟩ := h.elim
  have hb1 : n ≤ 100000 := HL.out ▸ hl
  obtain ⟨d, hdd⟩ : ∃ d : Int, d = (D : Int) := ⟨_, rfl⟩
  have hd0' : 0 < d ∧ d < 4294967296 := by omega
  have HDD := Aside0.mk hdd
  have hD := dg_words N
  have HD := Aside0.mk hD
  have HD0 := Aside0.mk hd0'
  rw [← hdd]
  have hdw : IntKind.u64.wrap d = d := by rw [IntKind.wrap_u64]; omega
  have hdz : d ≠ 0 := by omega
  clear h hD hd0 hd0' hl hm hdd
  go_enter Tryz.func152, Tryz.ntmps152
  go_wp2_with (refine mk_u32 (.tmp 10) (.tmp 10) rfl rfl rfl _ rfl rfl ?m1 ?m2 ?_)
  case m1 => omega
  case m2 => omega
  intro v5 w5 ho hb3
  obtain ⟨A5, c5, rfl⟩ := Kd.R_slice ho
  rw [List.length_replicate] at ho ⊢
  have HB5 := Aside0.mk hb3
  have HO := Aside0.mk ho
  clear ho hb3
  first | rw [Int.toNat_natCast] | skip
  go_wp2_with fail
  go_loopg [7, 8] n (fun k v5 v6 w' => ∃ (j : Nat) (i r : Int) (Q : List Int), v6 = .int .i64 i ∧ v5 = .int .u64 r ∧ i = (j : Int) - 1 ∧ j ≤ k ∧ j ≤ n ∧ Aside0 (Q.length = n) ∧ Aside0 (Dg Q) ∧ Aside0 (0 ≤ r ∧ r < d) ∧ Aside0 (val ((words N).drop j) = val (Q.drop j) * d.toNat + r.toNat) ∧ Aside0 (Ow w' w.heap.size (.slice A5 n c5) Q) ∧ Aside0 (Below w.heap.size w w'))
  case atStart => exact ⟨n, _, 0, _, rfl, rfl, rfl, Nat.le_refl _, Nat.le_refl _, ⟨List.length_replicate⟩, ⟨dg_replicate _⟩, ⟨by have := HD0.out; omega⟩, ⟨by rw [List.drop_of_length_le (by rw [← HL.out]; exact Nat.le_refl _), List.drop_of_length_le (by rw [List.length_replicate]; exact Nat.le_refl _)]; simp [val]⟩, HO, HB5⟩
  case round =>
    clear HO HB5
    obtain ⟨j, i, r, Q, rfl, rfl, hi, hk, hn, HQL, HQD, HR, HV, HO, HB5⟩ := hrel
    cases j with
    | zero =>
      obtain rfl : i = -1 := by omega
      clear hi
      have hq : val Q = N / D ∧ r.toNat = N % D := by
        have e := HV.out
        simp only [List.drop_zero, val_words, HDD.out, Int.toNat_natCast] at e
        have hr := HR.out
        have hd := HDD.out
        rw [hd] at hr
        have h0 : 0 < D := by omega
        have h1 : r.toNat < D := by omega
        rw [Nat.mul_comm] at e
        subst e
        exact ⟨by rw [Nat.mul_add_div h0, Nat.div_eq_of_lt h1]; rfl, by rw [Nat.mul_add_mod]; exact (Nat.mod_eq_of_lt h1).symm⟩
      have HQ := Aside0.mk hq
      have hr1 : r % 4294967296 = r := by have := HR.out; have := HD0.out; omega
      have HRD := Aside0.mk (show Dg [r] from dg_cons.2 ⟨by have := HR.out; have := HD0.out; omega, dg_nil⟩)
      clear hq
      go_wp2_with fail
      refine (rnorm_any _ _ Q HQD.out HO.out.reads (by rw [HQL.out]; omega)).mono ?_
      rw [HQ.out.1]
      rintro e w9 ⟨v9, rfl, hr9, hb9⟩
      have HR9 := Aside0.mk hr9
      have HB9 := Aside0.mk hb9
      clear hr9 hb9
      go_wp2_with fail
      refine (rnorm_any _ _ _ HRD.out (Ow.lit w9 w9.heap.size [r] (Nat.le_refl _) (by simp)).reads (by simp)).mono ?_
      rw [show val [r] = N % D by rw [← HQ.out.2]; simp [val]]
      rintro e w10 ⟨v10, rfl, hr10, hb10⟩
      have hb11 : Below w9.heap.size w9 w10 := Below.trans (below_alloc (Below.refl _ _) _) (hb10.mono (by simp))
      have HB11 := Aside0.mk hb11
      have HR10 := Aside0.mk hr10
      clear hb10 hr10 hb11
      go_wp2_with fail
      exact bodyPost_ret (v := .tuple #[v9, v10]) (by simp [results, Tryz.results152, go_sem]) rfl ⟨_, _, rfl, HR9.out.below HB11.out, HR10.out, (HB5.out.trans (HB9.out.mono HB5.out.size)).trans (HB11.out.mono (Nat.le_trans HB5.out.size HB9.out.size))⟩
    | succ m =>
      obtain rfl : i = (m : Int) := by omega
      clear hi
      obtain ⟨ad1, X, rfl, HX, hx⟩ := C_at (Kd.C_below HC.out HB5.out) m (by omega)
      obtain ⟨g, cap, he, hg1, hg2⟩ := HO.out.form (by rw [HQL.out]; omega)
      injection he with e1 e2 e3
      subst e1 e3
      obtain ⟨Z, _, ho1, ho2⟩ := HO.out.cell m (by omega)
      have HG := Aside0.mk hg1
      have HS := Aside0.mk (short_step (words N) Q m d r X HD.out (by have := HQL.out; omega) HX.out HR.out HD0.out.2 HV.out)
      have DX := Aside0.mk (HX.out ▸ dg_getD HD.out m : 0 ≤ X ∧ X < 4294967296)
      clear hg1 hg2 e2
      have hx1 : IntKind.u64.wrap X = X := by have := DX.out; rw [IntKind.wrap_u64]; omega
      obtain ⟨T, hT⟩ : ∃ T, T = r * 4294967296 + X := ⟨_, rfl⟩
      have ht2 : IntKind.u64.wrap (r * 4294967296) = r * 4294967296 := by have := HR.out; have := HD0.out; rw [IntKind.wrap_u64]; omega
      have ht3 : bits .or .u64 (r * 4294967296) X = T := by
        have h1 := HR.out; have h2 := HD0.out; have h3 := DX.out
        obtain ⟨r', rfl⟩ := Int.eq_ofNat_of_zero_le h1.1
        obtain ⟨x', rfl⟩ := Int.eq_ofNat_of_zero_le h3.1
        have := u64_or_high (a := r') (b := x') (s := 32) (by omega) (by omega)
        rw [show ((2 ^ 32 * r' : Nat) : Int) = (r' : Int) * 4294967296 by omega] at this
        rw [this]; omega
      rw [← hT] at HS
      have HT := Aside0.mk (show 0 ≤ T ∧ T < 18446744073709551616 by have h1 := HR.out; have h2 := HD0.out; have h3 := DX.out; omega)
      have ht0 : 0 ≤ T := HT.out.1
      have hq1 : IntKind.u64.wrap (T.tdiv d) = T / d := by rw [Int.tdiv_eq_ediv_of_nonneg ht0, IntKind.wrap_u64]; have := HS.out.2.1; omega
      have hq2 : IntKind.u64.wrap (T.tmod d) = T % d := by rw [Int.tmod_eq_emod_of_nonneg ht0, IntKind.wrap_u64]; have := HS.out.2.2; have := HD0.out; omega
      have hq3 : T / d % 4294967296 = T / d := by have := HS.out.2.1; omega
      clear hT
      go_wp2_with fail
      go_roundg m
      case measure => omega
      case rel => exact ⟨m, _, _, Q.set m (T / d), rfl, rfl, rfl, Nat.le_refl _, by omega, ⟨by rw [List.length_set]; exact HQL.out⟩, ⟨dg_set HQD.out _ _ HS.out.2.1⟩, ⟨HS.out.2.2⟩, ⟨HS.out.1⟩, ⟨HO.out.put m _⟩, ⟨HB5.out.setCell HG.out _⟩⟩

end Go.Proofs.YthknbknmlnnhcaaGreatDoor
