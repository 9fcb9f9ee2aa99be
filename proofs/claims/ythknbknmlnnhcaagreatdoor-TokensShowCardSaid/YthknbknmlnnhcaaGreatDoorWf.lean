/- Walks: nat.guess, nat.take, nat.give. -/
import Derived.Test.YthknbknmlnnhcaaGreatDoorWe
import Derived.Test.YthknbknmlnnhcaaGreatDoorM
namespace Go.Proofs.YthknbknmlnnhcaaGreatDoor
open Go.RowKit Go.Proofs.YthknbknmlnnhcaaGreatDoorW.PrintWords Bob
set_option linter.unusedVariables false
set_option linter.unusedSimpArgs false

def RetGood (u2 u1 u0 v1 v0 : Nat) (w : World) (e : Ending) (w' : World) : Prop := e = .returned (.int .u64 ((gF u2 u1 u0 v1 v0 : Nat) : Int)) ∧ ∃ nq, w' = w.drewN nq

set_option maxHeartbeats 400000 in
theorem guess_any (u2 u1 u0 v1 v0 : Nat) (w : World) (h2 : u2 < 4294967296) (h1 : u1 < 4294967296) (h0 : u0 < 4294967296) (hv1 : v1 < 4294967296) (hv0 : v0 < 4294967296) :
    Calls Tryz.prog 138 #[.int .u32 u2, .int .u32 u1, .int .u32 u0, .int .u32 v1, .int .u32 v0] w (RetGood u2 u1 u0 v1 v0 w) := by
  have H := Aside0.mk (And.intro h2 (And.intro h1 (And.intro h0 (And.intro hv1 hv0))))
  rcases Nat.lt_or_ge u2 v1 with hlt | hge
  · have hq := good_first (u0 := u0) (v0 := v0) hlt hv1 h1 h0
    have HLT := Aside0.mk hlt
    have HQ := Aside0.mk hq
    have hc1 : ((u2 : Int) * 4294967296 + u1) / v1 = (((u2 * 4294967296 + u1) / v1 : Nat) : Int) := by simp
    have hc2 : ((u2 : Int) * 4294967296 + u1) % v1 = (((u2 * 4294967296 + u1) % v1 : Nat) : Int) := by simp
    have hm := Nat.div_add_mod (u2 * 4294967296 + u1) v1
    have hr := Nat.mod_lt (u2 * 4294967296 + u1) (show 0 < v1 by omega)
    have hq1 := hq.1
    obtain ⟨q, hqe⟩ : ∃ q, q = (u2 * 4294967296 + u1) / v1 := ⟨_, rfl⟩
    obtain ⟨r, hre⟩ : ∃ r, r = (u2 * 4294967296 + u1) % v1 := ⟨_, rfl⟩
    have HG0 := Aside0.mk (show gLoop v1 v0 u0 (q + 1) q r = gF u2 u1 u0 v1 v0 by rw [gF, if_neg (by omega), ← hqe, ← hre])
    rw [← hqe] at hc1 hm hq1 HQ
    rw [← hre] at hc2 hm hr
    have HC := Aside0.mk (And.intro hc1 hc2)
    have HM := Aside0.mk (show q * v1 + r = u2 * 4294967296 + u1 by rw [Nat.mul_comm]; exact hm)
    have hw1 : IntKind.u64.wrap (q : Int) = q := by rw [IntKind.wrap_u64]; omega
    have hw2 : IntKind.u64.wrap (r : Int) = r := by rw [IntKind.wrap_u64]; omega
    have HR := Aside0.mk (show r < 8589934592 by omega)
    clear hc1 hc2 hm hqe hre hq hr h2 h1 h0 hv1 hv0 hq1
    go_enter Tryz.func138, Tryz.ntmps138
    go_wp2_with (go_at_call 148; refine (div32_quiet _ _ _ _ (by omega) (by have := H.out; omega) (by have := H.out; omega)).mono ?_; rw [HC.out.1, HC.out.2]; rintro e w9 ⟨rfl, nq, rfl⟩)
    clear hw1 hw2
    go_loopg [13, 14] q (fun k v13 v14 w' => ∃ (n s : Nat), v13 = .int .u64 (n : Int) ∧ v14 = .int .u64 (s : Int) ∧ n ≤ k ∧ Aside0 (s < 8589934592) ∧ Aside0 (GoodQ u2 u1 u0 v1 v0 n) ∧ Aside0 (n * v1 + s = u2 * 4294967296 + u1) ∧ Aside0 (gLoop v1 v0 u0 (n + 1) n s = gF u2 u1 u0 v1 v0) ∧ Aside0 (∃ nq, w' = w.drewN nq))
    case atStart => exact ⟨q, r, rfl, rfl, Nat.le_refl _, HR, HQ, HM, HG0, ⟨nq, rfl⟩⟩
    case round =>
      clear HQ HM HR HG0
      obtain ⟨n, s, rfl, rfl, hk, HS, HQ, HM, HGL, HB⟩ := hrel
      have hwv : IntKind.u64.wrap (v0 : Int) = v0 := by have := H.out; rw [IntKind.wrap_u64]; omega
      have hwu : IntKind.u64.wrap (u0 : Int) = u0 := by have := H.out; rw [IntKind.wrap_u64]; omega
      by_cases hs : s < 4294967296
      · obtain ⟨P, hP⟩ : ∃ P, P = n * v0 := ⟨_, rfl⟩
        obtain ⟨K, hK⟩ : ∃ K, K = s * 4294967296 + u0 := ⟨_, rfl⟩
        have hw3 : IntKind.u64.wrap ((n : Int) * v0) = P := by
          have h1 := HQ.out.1
          have h2 := H.out.2.2.2.2
          have hp : n * v0 ≤ 4294967295 * 4294967295 := Nat.mul_le_mul (by omega) (by omega)
          rw [show (n : Int) * v0 = ((n * v0 : Nat) : Int) by simp, ← hP, IntKind.wrap_u64]; omega
        have hw4 : IntKind.u64.wrap ((s : Int) * 4294967296) = (s : Int) * 4294967296 := by rw [IntKind.wrap_u64]; omega
        have hw5 : bits .or .u64 ((s : Int) * 4294967296) u0 = K := by
          have h2 := H.out.2.2.1
          have := u64_or_high (a := s) (b := u0) (s := 32) (by omega) (by omega)
          rw [show ((2 ^ 32 * s : Nat) : Int) = (s : Int) * 4294967296 by omega] at this
          rw [this]; omega
        have HPK := Aside0.mk (And.intro hP hK)
        clear hP hK
        by_cases hlt : K < P
        · have hg := good_less HQ.out HM.out (by rw [← HPK.out.1, ← HPK.out.2]; exact hlt)
          have HG := Aside0.mk hg.1
          have hn := hg.2
          have hwn : IntKind.u64.wrap ((n : Int) - 1) = ((n - 1 : Nat) : Int) := by have := HQ.out.1; rw [IntKind.wrap_u64]; omega
          have hwv1 : IntKind.u64.wrap (v1 : Int) = v1 := by have := H.out; rw [IntKind.wrap_u64]; omega
          have hws : IntKind.u64.wrap ((s : Int) + v1) = ((s + v1 : Nat) : Int) := by have := H.out; rw [IntKind.wrap_u64]; omega
          have hlti : (K : Int) < (P : Int) := by omega
          have HLTN := Aside0.mk hlt
          have hsb : decide ((s : Int) < 4294967296) = true := decide_eq_true (by omega)
          have HSL := Aside0.mk hs
          clear hg hlt hs
          go_wp2_with fail
          go_roundg (n - 1)
          case measure => omega
          case rel => exact ⟨n - 1, s + v1, rfl, by go_num, Nat.le_refl _, ⟨by have := H.out; have := HSL.out; omega⟩, HG, ⟨by
            have h1 := HM.out
            obtain ⟨m, rfl⟩ : ∃ m, n = m + 1 := ⟨n - 1, by omega⟩
            rw [Nat.add_mul] at h1
            rw [Nat.add_sub_cancel]; omega⟩, ⟨by
            have h1 := HGL.out
            rw [gLoop, if_pos HSL.out, if_pos (by rw [← HPK.out.1, ← HPK.out.2]; exact HLTN.out)] at h1
            rw [show n - 1 + 1 = n by omega]; exact h1⟩, HB⟩
        · have hsb : decide ((s : Int) < 4294967296) = true := decide_eq_true (by omega)
          have hlti : decide ((K : Int) < (P : Int)) = false := decide_eq_false (by omega)
          have hltn : decide (K < P) = false := decide_eq_false hlt
          have HX := Aside0.mk (And.intro hs hlt)
          clear hs hlt
          go_wp2_with fail
          go_ret
          refine ⟨ret_int ?_, HB.out⟩
          rw [← HGL.out, gLoop, if_pos HX.out.1, if_neg (by rw [← HPK.out.1, ← HPK.out.2]; exact HX.out.2)]
      · have hsb : decide ((s : Int) < 4294967296) = false := decide_eq_false (by omega)
        have HX := Aside0.mk hs
        clear hs
        go_wp2_with fail
        go_ret
        refine ⟨ret_int ?_, HB.out⟩
        rw [← HGL.out, gLoop, if_neg HX.out]
  · have hge' : (v1 : Int) ≤ (u2 : Int) := by omega
    go_enter Tryz.func138, Tryz.ntmps138
    go_wp2_with fail
    go_ret
    exact ⟨ret_int (by rw [gF, if_pos hge]; rfl), 0, rfl⟩

/-- The address's block is none of g. -/
def Off (g : Nat) (A : Option Addr) : Prop := ∀ ad, A = some ad → ad.block ≠ g
/-- Of what was there block g alone may have turned. -/
def Only (g : Nat) (w w' : World) : Prop := Below g w w' ∧ ∀ k, k < w.heap.size → k ≠ g → w'.heap[k]? = w.heap[k]?
theorem Only.refl (g : Nat) (w : World) : Only g w w := ⟨Below.refl _ _, fun _ _ _ => rfl⟩
theorem Only.trans {g : Nat} {a b c : World} (h : Only g a b) (k : Only g b c) : Only g a c := ⟨h.1.trans k.1, fun i hi hg => (k.2 i (Nat.lt_of_lt_of_le hi h.1.size) hg).trans (h.2 i hi hg)⟩
theorem Only.put {g : Nat} {a b : World} (h : Only g a b) (i : Nat) (u : Value) : Only g a (b.setCell ⟨g, i, none⟩ u) := ⟨h.1.setCell (Nat.le_refl _) u, fun k hk hg => (Below.heap_setCell _ _ _ _ hg).trans (h.2 k hk hg)⟩
theorem Only.of {g : Nat} {w w' : World} (h : Below w.heap.size w w') (hg : g ≤ w.heap.size) : Only g w w' := ⟨h.mono hg, fun k hk _ => h.block k hk⟩
theorem add_block (ad : Addr) (i : Nat) : (ad.add i).block = ad.block := by unfold Addr.add; split <;> rfl
theorem C_off {g : Nat} {w w1 : World} {A : Option Addr} {n : Nat} {l : List Int} (h : (Kd.int .u32).C w A n l) (hoff : Off g A) (ho : ∀ k, k < w.heap.size → k ≠ g → w1.heap[k]? = w.heap[k]?) : (Kd.int .u32).C w1 A n l := by
  have hr := Kd.reads_of_C (enc := Value.int .u32) (d := (0 : Int)) (h1 := fun _ => rfl) h
  refine Kd.C_of_reads (enc := Value.int .u32) (d := (0 : Int)) (h1 := fun _ => rfl) ⟨hr.1, hr.2.1, fun hn => ?_⟩
  obtain ⟨ad, e, hc⟩ := hr.2.2 hn
  refine ⟨ad, e, fun j hj => ?_⟩
  have h2 := hc j hj
  have hlt := World.block_lt_of_cell? w _ h2
  rw [World.cell?_of_block (w := w) (ho _ hlt (by rw [add_block]; exact hoff ad e)), h2]
theorem ap_getD {P U : List Int} {j : Nat} (h : P.length = j) (i : Nat) : (P ++ U).getD (j + i) 0 = U.getD i 0 := by
  rw [List.getD_eq_getElem?_getD, List.getD_eq_getElem?_getD, List.getElem?_append_right (by omega), show j + i - P.length = i by omega]
theorem ap_set {P U : List Int} {j : Nat} (h : P.length = j) (i : Nat) (x : Int) : (P ++ U).set (j + i) x = P ++ U.set i x := by
  rw [List.set_append_right _ _ (by omega), show j + i - P.length = i by omega]

/-- What take leaves. -/
def Took (base g L cap : Nat) (P U : List Int) (n D : Nat) (w : World) (e : Ending) (w' : World) : Prop :=
  ∃ U' : List Int, e = .returned (.bool (decide (val (U.take (n + 1)) < D))) ∧ U'.length = U.length ∧ Dg U' ∧ U'.drop (n + 1) = U.drop (n + 1) ∧ val (U'.take (n + 1)) + D = val (U.take (n + 1)) + (if val (U.take (n + 1)) < D then 4294967296 ^ (n + 1) else 0) ∧ Ow w' base (.slice (some ⟨g, 0, none⟩) L cap) (P ++ U') ∧ Only g w w'

set_option maxHeartbeats 800000 in
theorem take_any (w : World) (base g L cap cc j n cv : Nat) (Av : Option Addr) (P U v : List Int) (d : Int) (hP : P.length = j) (hU : n + 1 ≤ U.length) (hv : v.length = n) (dU : Dg U) (dv : Dg v) (hO : Ow w base (.slice (some ⟨g, 0, none⟩) L cap) (P ++ U)) (hC : (Kd.int .u32).C w Av n v) (hoff : Off g Av)
    (hd : 0 ≤ d ∧ d < 4294967296) (hL : L ≤ 1000000) : Calls Tryz.prog 139 #[.slice (some ⟨g, j, none⟩) (n + 1) cc, .slice Av n cv, .int .u64 d] w (Took base g L cap P U n (d.toNat * val v) w) := by
  have hl := hO.len
  rw [List.length_append] at hl
  have HP := Aside0.mk hP
  have HU := Aside0.mk hU
  have HL := Aside0.mk hl
  have HV := Aside0.mk hv
  have HDU := Aside0.mk dU
  have HDV := Aside0.mk dv
  have HO := Aside0.mk hO
  have HC := Aside0.mk hC
  have HOF := Aside0.mk hoff
  have HD := Aside0.mk hd
  have hjn : j + n < L := by omega
  clear hP hU hl hv dU dv hO hC hoff hd
  go_enter Tryz.func139, Tryz.ntmps139
  go_wp2_with fail
  go_loopg [7, 8, 13] n (fun k v7 v8 v13 w' => ∃ (i : Nat) (c b : Int) (U' : List Int), v13 = .int .i64 (i : Int) ∧ v7 = .int .u64 c ∧ v8 = .int .u32 b ∧ k + i = n ∧ Aside0 (0 ≤ c ∧ c < 4294967296) ∧ Aside0 (0 ≤ b ∧ b ≤ 1) ∧ Aside0 (U'.length = U.length) ∧ Aside0 (Dg U') ∧ Aside0 (U'.drop i = U.drop i) ∧ Aside0 (val (U'.take i) + d.toNat * val (v.take i) = val (U.take i) + 4294967296 ^ i * (b.toNat + c.toNat)) ∧ Aside0 (Ow w' base (.slice (some ⟨g, 0, none⟩) L cap) (P ++ U')) ∧ Aside0 (Only g w w'))
  case atStart => exact ⟨0, 0, 0, U, rfl, rfl, rfl, rfl, ⟨by decide⟩, ⟨by decide⟩, ⟨rfl⟩, HDU, ⟨rfl⟩, ⟨by simp [val]⟩, HO, ⟨Only.refl _ _⟩⟩
  case round =>
    clear HO
    obtain ⟨i, c, b, U', rfl, rfl, rfl, hki, HCY, HB, HUL, HUD, HUR, HI, HO, HN⟩ := hrel
    have HQ := Aside0.mk hki
    by_cases hlt : i < n
    · obtain ⟨ad1, X, rfl, HX, hx⟩ := C_at (C_off HC.out HOF.out HN.out.2) i hlt
      obtain ⟨Z, HZ, ho1, ho2⟩ := HO.out.cell (j + i) (by omega)
      rw [ap_getD HP.out] at HZ
      have hZ0 : U.getD i 0 = Z := by
        rw [← HZ.out]
        have h1 := drop_getD U i (by have := HU.out; omega)
        have h2 := drop_getD U' i (by have := HU.out; have := HUL.out; omega)
        rw [HUR.out, h1] at h2
        injection h2 with h3 h4
      have DX := Aside0.mk (HX.out ▸ dg_getD HDV.out i : 0 ≤ X ∧ X < 4294967296)
      have DZ := Aside0.mk (HZ.out ▸ dg_getD HUD.out i : 0 ≤ Z ∧ Z < 4294967296)
      have hs := take_step v U U' i d c b X Z HDV.out (by have := HU.out; have := HUL.out; omega) HD.out HCY.out HB.out HX.out hZ0 DZ.out HI.out
      obtain ⟨T, hT⟩ : ∃ T, T = c + d * X := ⟨_, rfl⟩
      obtain ⟨P1, hP1⟩ : ∃ P1, P1 = d * X := ⟨_, rfl⟩
      have hw1 : IntKind.u64.wrap X = X := by have := DX.out; rw [IntKind.wrap_u64]; omega
      have hw2 : IntKind.u64.wrap (d * X) = P1 := by have := HCY.out; rw [IntKind.wrap_u64, hP1]; omega
      have hw3 : IntKind.u64.wrap (c + P1) = T := by rw [IntKind.wrap_u64, hT, hP1]; omega
      rw [← hT] at hs
      have HS := Aside0.mk hs
      clear hs hT hP1 hki hZ0
      go_wp2_with (go_at_call 173; refine (sub32_any _ _ _ _ DZ.out (by omega) HB.out).mono ?_; rintro e w9 ⟨rfl, rfl⟩)
      go_roundg (gk - 1)
      case measure => have := HQ.out; omega
      case rel =>
        refine ⟨i + 1, _, _, U'.set i ((Z - T % 4294967296 - b) % 4294967296), by go_num, rfl, rfl, by have := HQ.out; omega, ⟨by have := HS.out; omega⟩, ⟨by unfold borrow; split <;> omega⟩, ⟨by rw [List.length_set]; exact HUL.out⟩, ⟨dg_set HUD.out _ _ (by omega)⟩, ⟨?_⟩, ⟨HS.out.1⟩, ⟨?_⟩, ⟨HN.out.put _ _⟩⟩
        · rw [drop_set_lt _ _ _ _ (Nat.lt_succ_self i)]
          have := congrArg (List.drop 1) HUR.out
          rwa [List.drop_drop, List.drop_drop] at this
        · rw [← ap_set HP.out]; exact HO.out.put (j + i) _
    · obtain rfl : i = n := by omega
      clear hlt hki
      obtain ⟨Z, HZ, ho1, ho2⟩ := HO.out.cell (j + i) (by omega)
      rw [ap_getD HP.out] at HZ
      have hZ0 : U.getD i 0 = Z := by
        rw [← HZ.out]
        have h1 := drop_getD U i (by have := HU.out; omega)
        have h2 := drop_getD U' i (by have := HU.out; have := HUL.out; omega)
        rw [HUR.out, h1] at h2
        injection h2 with h3 h4
      have DZ := Aside0.mk (HZ.out ▸ dg_getD HUD.out i : 0 ≤ Z ∧ Z < 4294967296)
      have hi := HI.out
      rw [List.take_of_length_le (l := v) (by rw [HV.out]; exact Nat.le_refl _)] at hi
      have HE := Aside0.mk (take_end U U' i (val v) d c b Z HDU.out HUD.out (by have := HU.out; have := HUL.out; omega) (by have := HU.out; omega) HCY.out HB.out hZ0 hi)
      have hcm : c % 4294967296 = c := by have := HCY.out; omega
      clear hi hZ0
      go_wp2_with (go_at_call 173; refine (sub32_any _ _ _ _ DZ.out HCY.out HB.out).mono ?_; rintro e w9 ⟨rfl, rfl⟩)
      go_ret
      refine ⟨U'.set i ((Z - c - b) % 4294967296), ret_bool ?_, by rw [List.length_set]; exact HUL.out, dg_set HUD.out _ _ (by omega), ?_, HE.out.2, ?_, HN.out.put _ _⟩
      · have := HE.out.1
        unfold borrow
        by_cases h : Z < c + b
        · rw [if_pos h, decide_eq_true (this.2 h)]; rfl
        · rw [if_neg h, decide_eq_false (fun k => h (this.1 k))]; rfl
      · rw [drop_set_lt _ _ _ _ (Nat.lt_succ_self i)]
        have := congrArg (List.drop 1) HUR.out
        rwa [List.drop_drop, List.drop_drop] at this
      · rw [← ap_set HP.out]; exact HO.out.put (j + i) _

/-- What give leaves. -/
def Gave (base g L cap : Nat) (P U : List Int) (n V : Nat) (w : World) (e : Ending) (w' : World) : Prop :=
  ∃ U' : List Int, e = .returned (.tuple #[]) ∧ U'.length = U.length ∧ Dg U' ∧ U'.drop (n + 1) = U.drop (n + 1) ∧ val (U'.take (n + 1)) = (val (U.take (n + 1)) + V) % 4294967296 ^ (n + 1) ∧ Ow w' base (.slice (some ⟨g, 0, none⟩) L cap) (P ++ U') ∧ Only g w w'

set_option maxHeartbeats 800000 in
theorem give_any (w : World) (base g L cap cc j n cv : Nat) (Av : Option Addr) (P U v : List Int) (hP : P.length = j) (hU : n + 1 ≤ U.length) (hv : v.length = n) (dU : Dg U) (dv : Dg v) (hO : Ow w base (.slice (some ⟨g, 0, none⟩) L cap) (P ++ U)) (hC : (Kd.int .u32).C w Av n v) (hoff : Off g Av)
    (hL : L ≤ 1000000) : Calls Tryz.prog 140 #[.slice (some ⟨g, j, none⟩) (n + 1) cc, .slice Av n cv] w (Gave base g L cap P U n (val v) w) := by
  have hl := hO.len
  rw [List.length_append] at hl
  have HP := Aside0.mk hP
  have HU := Aside0.mk hU
  have HL := Aside0.mk hl
  have HV := Aside0.mk hv
  have HDU := Aside0.mk dU
  have HDV := Aside0.mk dv
  have HO := Aside0.mk hO
  have HC := Aside0.mk hC
  have HOF := Aside0.mk hoff
  have hjn : j + n < L := by omega
  clear hP hU hl hv dU dv hO hC hoff
  go_enter Tryz.func140, Tryz.ntmps140
  go_wp2_with fail
  go_loopg [4, 9] n (fun k v4 v9 w' => ∃ (i : Nat) (c : Int) (U' : List Int), v9 = .int .i64 (i : Int) ∧ v4 = .int .u32 c ∧ k + i = n ∧ Aside0 (0 ≤ c ∧ c ≤ 1) ∧ Aside0 (U'.length = U.length) ∧ Aside0 (Dg U') ∧ Aside0 (U'.drop i = U.drop i) ∧ Aside0 (val (U'.take i) + 4294967296 ^ i * c.toNat = val (U.take i) + val (v.take i)) ∧ Aside0 (Ow w' base (.slice (some ⟨g, 0, none⟩) L cap) (P ++ U')) ∧ Aside0 (Only g w w'))
  case atStart => exact ⟨0, 0, U, rfl, rfl, rfl, ⟨by decide⟩, ⟨rfl⟩, HDU, ⟨rfl⟩, ⟨by simp [val]⟩, HO, ⟨Only.refl _ _⟩⟩
  case round =>
    clear HO
    obtain ⟨i, c, U', rfl, rfl, hki, HCY, HUL, HUD, HUR, HI, HO, HN⟩ := hrel
    have HQ := Aside0.mk hki
    by_cases hlt : i < n
    · obtain ⟨ad1, X, rfl, HX, hx⟩ := C_at (C_off HC.out HOF.out HN.out.2) i hlt
      obtain ⟨Z, HZ, ho1, ho2⟩ := HO.out.cell (j + i) (by omega)
      rw [ap_getD HP.out] at HZ
      have hZ0 : U.getD i 0 = Z := by
        rw [← HZ.out]
        have h1 := drop_getD U i (by have := HU.out; omega)
        have h2 := drop_getD U' i (by have := HU.out; have := HUL.out; omega)
        rw [HUR.out, h1] at h2
        injection h2 with h3 h4
      have DX := Aside0.mk (HX.out ▸ dg_getD HDV.out i : 0 ≤ X ∧ X < 4294967296)
      have DZ := Aside0.mk (HZ.out ▸ dg_getD HUD.out i : 0 ≤ Z ∧ Z < 4294967296)
      have HS := Aside0.mk (give_step v U U' i c X Z (by have := HU.out; have := HUL.out; omega) HCY.out HX.out DX.out hZ0 DZ.out HI.out)
      clear hki hZ0
      go_wp2_with (go_at_call 141; refine (add32_any _ _ _ _ DZ.out DX.out HCY.out).mono ?_; rintro e w9 ⟨rfl, rfl⟩)
      go_roundg (gk - 1)
      case measure => have := HQ.out; omega
      case rel =>
        refine ⟨i + 1, _, U'.set i ((Z + X + c) % 4294967296), by go_num, rfl, by have := HQ.out; omega, ⟨HS.out.2⟩, ⟨by rw [List.length_set]; exact HUL.out⟩, ⟨dg_set HUD.out _ _ (by omega)⟩, ⟨?_⟩, ⟨HS.out.1⟩, ⟨?_⟩, ⟨HN.out.put _ _⟩⟩
        · rw [drop_set_lt _ _ _ _ (Nat.lt_succ_self i)]
          have := congrArg (List.drop 1) HUR.out
          rwa [List.drop_drop, List.drop_drop] at this
        · rw [← ap_set HP.out]; exact HO.out.put (j + i) _
    · obtain rfl : i = n := by omega
      clear hlt hki
      obtain ⟨Z, HZ, ho1, ho2⟩ := HO.out.cell (j + i) (by omega)
      rw [ap_getD HP.out] at HZ
      have hZ0 : U.getD i 0 = Z := by
        rw [← HZ.out]
        have h1 := drop_getD U i (by have := HU.out; omega)
        have h2 := drop_getD U' i (by have := HU.out; have := HUL.out; omega)
        rw [HUR.out, h1] at h2
        injection h2 with h3 h4
      have hi := HI.out
      rw [List.take_of_length_le (l := v) (by rw [HV.out]; exact Nat.le_refl _)] at hi
      have HE := Aside0.mk (give_end U U' i (val v) c Z HDU.out HUD.out (by have := HU.out; have := HUL.out; omega) HCY.out hZ0 hi)
      clear hi hZ0
      go_wp2_with fail
      go_end0
      refine ⟨U'.set i ((Z + c) % 4294967296), rfl, by rw [List.length_set]; exact HUL.out, dg_set HUD.out _ _ (by omega), ?_, HE.out, ?_, HN.out.put _ _⟩
      · rw [drop_set_lt _ _ _ _ (Nat.lt_succ_self i)]
        have := congrArg (List.drop 1) HUR.out
        rwa [List.drop_drop, List.drop_drop] at this
      · rw [← ap_set HP.out]; exact HO.out.put (j + i) _

end Go.Proofs.YthknbknmlnnhcaaGreatDoor
