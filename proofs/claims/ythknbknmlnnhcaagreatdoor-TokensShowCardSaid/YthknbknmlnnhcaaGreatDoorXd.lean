/- Walks: nat.Text. -/
import Derived.Test.YthknbknmlnnhcaaGreatDoorXc
namespace Go.Proofs.YthknbknmlnnhcaaGreatDoor
open Go.RowKit Go.Shelf Go.Proofs.YthknbknmlnnhcaaGreatDoorW.PrintWords Bob
set_option linter.unusedVariables false
set_option linter.unusedSimpArgs false
attribute [local go_sem] Oper.semAt_some

/-- A word set in a block below base turns no row of blocks from base on. -/
theorem Ow.other {w : World} {base g : Nat} {v : Value} {l : List Int} (h : Ow w base v l) (hg : g < base) (i : Nat) (u : Value) : Ow (w.setCell ⟨g, i, none⟩ u) base v l :=
  Kd.R_mono (Kd.R_move (Kd.R_bound h) fun k hk => (Only.setOther w i u : Only g w _).2 k (by have := hk.2.1; omega) |> fun e => e (by have := hk.2.1; omega)) (fun _ _ => trivial)

/-- i pieces of nine digits, the lowest first. -/
def pcs (N : Nat) : Nat → List Int
  | 0 => []
  | i + 1 => pcs N i ++ [((N / 10 ^ (9 * i) % 1000000000 : Nat) : Int)]
/-- The bytes of what was handed out. -/
def bytesOf (pre : List Pc) : List Value := pre.flatMap fun x => (pad 9 x.2.1).reverse.map (Value.int .u8)
theorem pcs_length (N i : Nat) : (pcs N i).length = i := by
  induction i with
  | zero => rfl
  | succ i ih => rw [pcs, List.length_append, ih]; rfl

theorem pcs_getD (N i j : Nat) (h : j < i) : (pcs N i).getD j 0 = ((N / 10 ^ (9 * j) % 1000000000 : Nat) : Int) := by
  induction i with
  | zero => omega
  | succ i ih =>
    rw [pcs, List.getD_eq_getElem?_getD]
    rcases Nat.lt_or_ge j i with h1 | h1
    · rw [List.getElem?_append_left (by rw [pcs_length]; exact h1), ← List.getD_eq_getElem?_getD, ih h1]
    · obtain rfl : j = i := by omega
      rw [List.getElem?_append_right (by rw [pcs_length]; exact Nat.le_refl _), pcs_length, Nat.sub_self]
      rfl
theorem nine (x : Nat) : ∃ d0 d1 d2 d3 d4 d5 d6 d7 d8 : Int, (pad 9 x).reverse = [d0, d1, d2, d3, d4, d5, d6, d7, d8] := ⟨_, _, _, _, _, _, _, _, _, rfl⟩
theorem bytes_bwd (N i : Nat) (zs : List { x : Nat // x < 4294967296 }) (hl : zs.length = i) (hz : ∀ j, j < i → (zs.getD j ⟨0, by decide⟩).1 = N / 10 ^ (9 * j) % 1000000000) (k : Nat) (hk : k ≤ i) :
    bytesOf (bwd zs k) = (pad (9 * k) (N / 10 ^ (9 * (i - k)))).reverse.map (Value.int .u8) := by
  induction k with
  | zero => rfl
  | succ k ih =>
    obtain ⟨m, hm⟩ : ∃ m, m = i - 1 - k := ⟨_, rfl⟩
    have h1 : bytesOf (bwd zs (k + 1)) = bytesOf (bwd zs k) ++ (pad 9 (zs.getD m ⟨0, by decide⟩).1).reverse.map (Value.int .u8) := by
      rw [bwd, hl, ← hm]
      simp [bytesOf]
    have e : pad 9 (N / 10 ^ (9 * m) % 1000000000) = pad 9 (N / 10 ^ (9 * m)) := pad_mod 9 _
    rw [h1, ih (by omega), hz m (by omega), e, show i - (k + 1) = m by omega, show i - k = m + 1 by omega, show 9 * (k + 1) = 9 + 9 * k by omega, pad_add, List.reverse_append, List.map_append, Nat.div_div_eq_div_mul, ← Nat.pow_add, show 9 * (m + 1) = 9 * m + 9 by omega]
theorem bytes_len (pre : List Pc) : (bytesOf pre).length = 9 * pre.length := by
  unfold bytesOf
  induction pre with
  | nil => rfl
  | cons y ys ih => rw [List.flatMap_cons, List.length_append, ih, List.length_map, List.length_reverse, pad_length, List.length_cons]; omega
theorem cells_byt {L : List Int} (h : ∀ d ∈ L, 48 ≤ d ∧ d ≤ 57) : Lib.byteCells (byt L) = L.map (Value.int .u8) := by
  unfold Lib.byteCells byt
  rw [List.map_map]
  refine List.map_congr_left fun d hd => ?_
  have := h d hd
  simp
  omega
theorem trim_pad (K N : Nat) (h0 : N ≠ 0) (h : N < 10 ^ K) : Lib.trimLeftB (byt (pad K N).reverse) 48 = Lib.decDigits N := by
  unfold Lib.trimLeftB
  induction K with
  | zero => simp at h; omega
  | succ K ih =>
    by_cases hn : N < 10 ^ K
    · rw [pad_snoc, List.reverse_append, byt_append, show byt ([((48 + N / 10 ^ K % 10 : Nat) : Int)]).reverse = [48] by rw [Nat.div_eq_of_lt hn]; rfl]
      exact ih hn
    · have h1 := decDigits_pad K N h (.inr (by omega))
      rw [← h1, pad_snoc, List.reverse_append, byt_append]
      have h2 : N / 10 ^ K < 10 := Nat.div_lt_of_lt_mul (by rw [← Nat.pow_succ]; exact h)
      have h3 : 0 < N / 10 ^ K := Nat.div_pos (by omega) (Nat.pow_pos (by decide))
      generalize N / 10 ^ K = y at h2 h3
      have : ((48 + y % 10 : Nat) : Int).toNat = 48 + y := by omega
      simp only [byt, List.reverse_singleton, List.map_cons, List.map_nil, List.cons_append, List.nil_append, this]
      rw [List.dropWhile_cons_of_neg]
      intro e
      have h4 := congrArg UInt8.toNat (eq_of_beq e)
      simp at h4
      omega

set_option maxRecDepth 100000 in
set_option maxHeartbeats 2000000 in
theorem text_any (w : World) (v : Value) (N : Nat) (h : Rd w v (words N)) (hk : (words N).length ≤ 1000) : Calls Tryz.prog 104 #[v] w fun e w' => e = .returned (.string (decS N)) ∧ Below w.heap.size w w' := by
  have HK := Aside0.mk hk
  have HL0 := Aside0.mk hk
  refine (callsIn_wide (n := 5)).1 ?_
  refine callsIn_of_wp_marks Tryz.func104 rfl trivial ?_ rfl
  refine wpIn_wide.2 ?_
  simp only [Tryz.ntmps104, List.size_toArray, List.length_cons, List.length_nil, Nat.reduceAdd, Nat.reduceSub, Array.replicate_succ, Array.replicate_zero, List.push_toArray, List.append_toArray, List.nil_append, List.cons_append]
  have hn := norm_own w v (words N) (dg_words N) h (by omega)
  rw [val_words] at hn
  go_wp2_with fail
  refine hn.mono ?_
  rintro e w1 ⟨v3, rfl, ho, hb1⟩
  have HB1 := Aside0.mk hb1
  have HO := Aside0.mk ho
  have HLT := Aside0.mk ho.lt
  obtain ⟨A, c, rfl⟩ := Kd.R_slice ho
  clear hn h hk ho hb1
  obtain ⟨n, hnn⟩ : ∃ n, n = (words N).length := ⟨_, rfl⟩
  rw [← hnn] at HO HLT HK ⊢
  have HN := Aside0.mk hnn
  have hnk : n ≤ 1000 := HK.out
  clear hnn
  cases n with
  | zero =>
    have e : N = 0 := words_len_zero.1 HN.out.symm
    go_wp2_with fail
    exact ⟨_, results_tmp rfl _ _ _, by rw [e, decS_zero]; rfl, HB1.out⟩
  | succ n =>
    have HNE : Aside0 (N ≠ 0) := ⟨fun e => by have := HN.out; rw [e, words_zero] at this; cases this⟩
    go_wp2_with fail
    go_loopg [3, 4] N (fun k v3 v4 w' => ∃ (i M n : Nat) (A : Option Addr) (c : Nat), v3 = .slice A n c ∧ M ≤ k ∧ n ≤ 1000 ∧ 9 * i ≤ 40000 ∧ Aside0 (n = (words M).length) ∧ Aside0 (M = N / 10 ^ (9 * i)) ∧ Aside0 (∀ k, Value.ownBlock (.slice A n c) = some k → k < w1.heap.size) ∧ Aside0 (Ow w' w.heap.size (.slice A n c) (words M)) ∧ Aside0 (Ow w' w1.heap.size v4 (pcs N i)) ∧ Aside0 (Below w.heap.size w w') ∧ Aside0 (w1.heap.size ≤ w'.heap.size))
    case atStart => exact ⟨0, N, n + 1, A, c, rfl, Nat.le_refl _, hnk, by omega, HN, ⟨by rw [Nat.mul_zero, Nat.pow_zero, Nat.div_one]⟩, HLT, HO, ⟨Ow.nil _ _⟩, HB1, ⟨Nat.le_refl _⟩⟩
    case round =>
      clear HO HLT HN HK hnk
      obtain ⟨i, M, n, A, c, rfl, hk, hnk, hi, HN, HM, HLT, HO, HO8, HB, HSZ⟩ := hrel
      have HI := Aside0.mk hi
      have HKK := Aside0.mk hk
      cases n with
      | zero =>
        have e : M = 0 := words_len_zero.1 HN.out.symm
        subst e
        have HN10 : Aside0 (N < 10 ^ (9 * i)) := ⟨by
          have h1 := HM.out
          rcases Nat.lt_or_ge N (10 ^ (9 * i)) with h | h
          · exact h
          · have := Nat.div_pos h (Nat.pow_pos (by decide) : 0 < 10 ^ (9 * i)); omega⟩
        have hK1 : 1 ≤ i := by
          rcases Nat.eq_zero_or_pos i with h | h
          · subst h; have := HN10.out; have := HNE.out; omega
          · exact h
        clear hi hk
        obtain ⟨g4, c4, he4, hg41, hg42⟩ := HO8.out.form (by rw [pcs_length]; exact hK1)
        rw [pcs_length] at he4
        subst he4
        obtain ⟨zs, hzl, hzd⟩ : ∃ zs : List { x : Nat // x < 4294967296 }, zs.length = i ∧ ∀ j, j < i → (zs.getD j ⟨0, by decide⟩).1 = N / 10 ^ (9 * j) % 1000000000 :=
          ⟨(List.range i).map fun j => ⟨N / 10 ^ (9 * j) % 1000000000, by omega⟩, by simp, fun j hj => by simp [List.getD_eq_getElem?_getD, hj]⟩
        have HZD := Aside0.mk hzd
        have HP := Aside0.mk HO8
        have HZL := Aside0.mk hzl
        clear hzd
        rw [← hzl]
        clear hzl
        go_wp2_with (go_at_call 149; refine (back_any _ _ _ _).mono ?_; rintro e w9 ⟨rfl, rfl⟩)
        obtain ⟨b, hb⟩ : ∃ b, b = wr.heap.size := ⟨_, rfl⟩
        obtain ⟨W0, hW0⟩ : ∃ W0, W0 = (wr.alloc (Obj.cells #[.pointer none, .slice none 0 0] 88)).alloc (.cells #[.slice (some ⟨g4, 0, none⟩) zs.length c4] 66) := ⟨_, rfl⟩
        have hs0 : W0.heap.size = b + 2 := by rw [hW0, hb]; simp
        have hg0 : g4 < b := by rw [hb]; exact hg42
        have hbl : Below b wr W0 := by rw [hW0, hb]; exact below_alloc (below_alloc (Below.refl _ _) _) _
        have hbd : Bdr b (b + 2) [] W0 := ⟨by omega, .pointer none, .slice none 0 0, by
          rw [hW0, hb]
          exact (Below.heap_alloc _ _ _ (by simp)).trans (heap_alloc_new _ _), .inl rfl, World.ownsRow_nil _ _ _ _⟩
        have hbx : W0.cell? ⟨b + 1, 0, none⟩ = some (.slice (some ⟨g4, 0, none⟩) zs.length c4) := by
          have := (new_at (wr.alloc (Obj.cells #[.pointer none, .slice none 0 0] 88)) #[.slice (some ⟨g4, 0, none⟩) zs.length c4] 66 0).1
          rw [World.size_alloc, ← hb] at this
          rw [hW0]; exact this
        have hcs : ∀ j, j < zs.length → W0.cell? ⟨g4, j, none⟩ = some (.int .u32 ((zs.getD j ⟨0, by decide⟩).1 : Int)) := fun j hj => by
          rw [HZL.out] at hj
          obtain ⟨X, hX, hc, _⟩ := HP.out.out.cell j hj
          rw [HZD.out j hj, ← pcs_getD N i j hj, hX.out]
          exact (hbl.cell (p := ⟨g4, j, none⟩) hg0).trans hc
        rw [← hW0, ← hb]
        have HBB := Aside0.mk hb
        have HW0 := Aside0.mk hW0
        clear hb hW0
        refine (wpIn_wide (n := 5)).1 ?_
        apply wpIn_rangeFunc_ownF rfl (by omega) (gf := 174) (lb := #[.pointer (some ⟨b + 1, 0, none⟩)]) rfl trivial (enters_of Tryz.func174 (by kernel_rfl) rfl)
          (back_stops Fence.wide (5 - 1) trivial rfl (by omega) (b + 1) g4 c4 zs (by have := HI.out; have := HZL.out; omega) (But b (b + 2)) (fun A B hAB k hk => hAB.2 k (by omega) (by omega)) W0 (by omega) hbx (by omega) hcs)
          (fun h k => h.trans k) (fun W l o o' hl h1 h2 h3 => ?kb) (Below.refl _ _) (fun _ => rfl)
          (fun pre W => Bdr b (b + 2) (bytesOf pre) W ∧ But b (b + 2) W0 W ∧ b + 2 ≤ W.heap.size) (fun _ _ _ => False)
          (fun s A B row hs hg hr => ⟨hs.1.kept hg (fun r e => by have := hr r e; rw [hs0] at this; exact this), hs.2.1.kept hs.2.2 (by omega) hg (fun r e => by have := (hr r e).1; omega), Nat.le_trans hs.2.2 hg.size⟩)
          (fun _ _ _ _ _ hs _ _ => hs)
          ⟨hbd, But.of (Below.refl _ _) (by omega), by omega⟩
          _ ?assign ?body ?done ?stop
        case assign =>
          intro l x W K hK
          simp only [encPc]
          gi_wp2
          exact hK
        case kb =>
          exact ⟨(Below.refl b W).grown (grownBy_putObj' W l o') (by have := (Array.getElem?_eq_some_iff.1 h1).1; omega) (fun k e => by cases e; omega), fun k hk hb => World.putObj_heap_other (by omega)⟩
        case stop =>
          rintro D c pre W _ _ h _
          exact h.elim
        case body =>
          rintro l pre x W ⟨hbW, hbtW, hsW⟩ hpl
          obtain ⟨d0, d1, d2, d3, d4, d5, d6, d7, d8, hd⟩ := nine x.2.1
          have hdig : ∀ W, Calls Tryz.prog 150 #[.int .u32 (x.2.1 : Int)] W fun e w' => e = .returned (.agg #[.int .u8 d0, .int .u8 d1, .int .u8 d2, .int .u8 d3, .int .u8 d4, .int .u8 d5, .int .u8 d6, .int .u8 d7, .int .u8 d8]) ∧ Below W.heap.size W w' := fun W => by
            have := digits_any W x.2.1 x.2.2
            rw [hd] at this
            exact this
          have HBW := Aside0.mk hbW
          have HBT := Aside0.mk hbtW
          have HSW := Aside0.mk hsW
          have HPL := Aside0.mk hpl
          have HD := Aside0.mk hd
          clear hbW hbtW hsW hpl hd
          gi_wp2_with (first
            | (refine ⟨trivial, ?_⟩; gi_at_call 150; refine (CallsIn.inRound l (callsIn_wide.2 (hdig _))).mono ?_; rintro e w2 ⟨rfl, hb2⟩; have HB2 := Aside0.mk hb2; clear hb2)
            | (refine ⟨trivial, ?_⟩; gi_at_call 151; refine (CallsIn.inRound l (callsIn_wide.2 (write_any b (b + 2) w2.heap.size 9 (bytesOf pre) [.int .u8 d0, .int .u8 d1, .int .u8 d2, .int .u8 d3, .int .u8 d4, .int .u8 d5, .int .u8 d6, .int .u8 d7, .int .u8 d8] _ ((HBW.out.below HB2.out).below (below_alloc (Below.refl _ _) _)) ?n1 rfl ?n2 ?n3 ?n4 ?n5))).mono ?_))
          case n1 => have := HB2.out.size; have := HSW.out; omega
          case n2 => intro u hu; simp at hu; rcases hu with h | h | h | h | h | h | h | h | h <;> (subst h; rfl)
          case n3 =>
            intro j u hu
            rw [(new_at _ _ _ j).1]
            simpa using hu
          case n4 =>
            have h1 := bytes_len pre
            have h2 := HPL.out
            have h3 := HZL.out
            have h4 := HI.out
            omega
          case n5 => have := HB2.out.size; have := HSW.out; simp; omega
          rintro e w3 ⟨rfl, hbW3, hbt3, hk3⟩
          gi_wp2
          have hB9 : Below W.heap.size W (w2.alloc (.cells #[.int .u8 d0, .int .u8 d1, .int .u8 d2, .int .u8 d3, .int .u8 d4, .int .u8 d5, .int .u8 d6, .int .u8 d7, .int .u8 d8] 166)) := below_alloc HB2.out _
          refine ⟨(KeepsOthers.of_below hB9).trans hk3, (But.of (hB9.mono HSW.out) (by omega)).trans hbt3, ?_, HBT.out.trans ((But.of (hB9.mono HSW.out) (by omega)).trans hbt3), ?_⟩
          · have e : bytesOf (pre ++ [x]) = bytesOf pre ++ [.int .u8 d0, .int .u8 d1, .int .u8 d2, .int .u8 d3, .int .u8 d4, .int .u8 d5, .int .u8 d6, .int .u8 d7, .int .u8 d8] := by
              unfold bytesOf
              rw [List.flatMap_append]
              simp only [List.flatMap_cons, List.flatMap_nil, List.append_nil, HD.out]
              rfl
            rw [e]; exact hbW3
          · have := HSW.out; have := hB9.size; have := hbt3.1.size; omega
        case done =>
          rintro D ys W hD rfl ⟨hbW, hbtW, hsW⟩ hK
          have HHK := Aside0.mk hK
          have hcat : bytesOf (bwd zs zs.length) = Lib.byteCells (byt (pad (9 * i) N).reverse) := by
            rw [HZL.out, bytes_bwd N i zs HZL.out HZD.out i (Nat.le_refl _), cells_byt (fun d hd => pad_byte _ _ d (List.mem_reverse.1 hd)), Nat.sub_self, Nat.mul_zero, Nat.pow_zero, Nat.div_one]
          rw [hcat] at hbW
          have HBW := Aside0.mk hbW
          have HBT := Aside0.mk hbtW
          have HSW := Aside0.mk hsW
          clear hbW hbtW hsW hK hcat
          have h10 : (pad (9 * i) N).length ≠ 0 := by rw [pad_length]; omega
          go_wp2_with (first
            | (go_at_call 69; refine (string_any b (b + 2) (byt (pad (9 * i) N).reverse) _ HBW.out (by intro e; apply h10; have := congrArg List.length e; simpa [byt] using this)).mono ?_; rintro e w7 ⟨rfl, hb7, hk7⟩)
            | (go_at_call 80; refine (Tryz.strings_TrimLeft_one ⟨(byt (pad (9 * i) N).reverse).toArray⟩ 48 (by decide) _).mono ?_; rintro e w8 ⟨rfl, rfl⟩))
          have hD8 := hk7.same D _ HHK.out rfl
          refine ⟨by simp, .inl ⟨_, _, rfl, run_takeDeferred hD8, ?_⟩⟩
          refine ⟨_, results_tmp rfl _ _ _, ?_, ?_⟩
          · rw [trim_pad (9 * i) N HNE.out HN10.out]; rfl
          · have hsz : w.heap.size ≤ b := by rw [HBB.out]; exact HB.out.size
            have h1 : Below w.heap.size w W0 := HB.out.trans (hbl.mono hsz)
            have h2 : Below w.heap.size W0 _ := (HBT.out.1.trans hb7.1).mono hsz
            refine (h1.trans h2).trans ⟨rfl, rfl, rfl, by simp, fun k hk => World.putObj_heap_other (by omega)⟩
      | succ n =>
        have HMN : Aside0 (M ≠ 0) := ⟨fun e => by have := HN.out; rw [e, words_zero] at this; cases this⟩
        obtain ⟨g, cap, he, hg1, hg2⟩ := HO.out.form (by rw [← HN.out]; omega)
        injection he with e1 e2 e3
        subst e1 e3
        have HGL := Aside0.mk (HLT.out g rfl)
        have HGB := Aside0.mk hg1
        clear hg1 hg2 e2 hk
        go_wp2_with fail
        obtain ⟨wo, rfl⟩ : ∃ wo : World, wo = wr := ⟨_, rfl⟩
        obtain ⟨g0, rfl⟩ : ∃ g0 : Nat, g0 = gk := ⟨_, rfl⟩
        go_loopg [5, 6] (n + 1) (fun k v5 v6 w' => ∃ (j : Nat) (i' r : Int) (Q : List Int), v6 = .int .i64 i' ∧ v5 = .int .u32 r ∧ i' = (j : Int) - 1 ∧ j ≤ k ∧ j ≤ n + 1 ∧ Aside0 (Q.length = n + 1) ∧ Aside0 (Dg Q) ∧ Aside0 (0 ≤ r ∧ r < 1000000000) ∧ Aside0 (val ((words M).drop j) = val (Q.drop j) * (1000000000 : Int).toNat + r.toNat) ∧ Aside0 (∀ k, k < j → Q.getD k 0 = (words M).getD k 0) ∧ Aside0 (Ow w' w.heap.size (.slice (some ⟨g, 0, none⟩) (n + 1) c) Q) ∧ Aside0 (Ow w' w1.heap.size u4 (pcs N i)) ∧ Aside0 (Below w.heap.size w w') ∧ Aside0 (w1.heap.size ≤ w'.heap.size))
        case atStart => exact ⟨n + 1, _, 0, words M, rfl, rfl, by omega, Nat.le_refl _, Nat.le_refl _, ⟨HN.out.symm⟩, ⟨dg_words _⟩, ⟨by decide⟩, ⟨by rw [List.drop_of_length_le (by rw [← HN.out]; exact Nat.le_refl _)]; simp [val]⟩, ⟨fun _ _ => rfl⟩, HO, HO8, HB, HSZ⟩
        case round =>
          clear HO HO8 HB HSZ HLT
          obtain ⟨j, i', r, Q, rfl, rfl, hij, hk, hn, HQL, HQD, HR, HV, HQE, HO, HO8, HB, HSZ⟩ := hrel
          cases j with
          | zero =>
            obtain rfl : i' = -1 := by omega
            clear hij
            have hq : val Q = M / 1000000000 ∧ r = ((M % 1000000000 : Nat) : Int) := by
              have e := HV.out
              simp only [List.drop_zero, val_words] at e
              rw [show (1000000000 : Int).toNat = 1000000000 from rfl] at e
              have hr := HR.out
              omega
            have HQ := Aside0.mk hq
            clear hq
            have HLEN := Aside0.mk (show (pcs N i).length ≤ 1000000 by rw [pcs_length]; have := HI.out; omega)
            go_wp2_with (first | (at_builtin; refine app_one (w0 := wr) (.tmp 38) (.tmp 40) w1.heap.size rfl rfl _ _ r rfl rfl HO8.out (Below.refl _ _) HSZ.out HLEN.out ?_; intro v9 w9 ho9 hb9; have HO9 := Aside0.mk ho9; have HB9 := Aside0.mk hb9; clear ho9 hb9))
            have HOK := Aside0.mk (HO.out.keep (B := w1.heap.size) (fun k hk => by have := hk; simp [Value.ownBlock] at this; subst this; exact HGL.out) HB9.out)
            refine (trim_eq _ _ _ _ Q HQD.out HOK.out.reads).mono ?_
            rintro e w8 ⟨rfl, M9, hM9, hM9l, hM9t, rfl⟩
            have HOT := Aside0.mk (HOK.out.trim hM9 hM9t)
            rw [HQ.out.1] at HOT
            have HM9 := Aside0.mk (show M9 = (words (M / 1000000000)).length by rw [hM9l, HQ.out.1])
            have hm9 : M9 ≤ 1000 := by omega
            clear hM9 hM9l hM9t HO
            go_wp2_with fail
            go_roundg (M / 1000000000)
            case measure => have := HKK.out; have := HMN.out; omega
            case rel => exact ⟨i + 1, M / 1000000000, M9, _, _, rfl, Nat.le_refl _, hm9, by
                    have h1 := text_bound (N := N) (i := i) (L := 1000) HL0.out (by rw [← HM.out]; exact HMN.out)
                    omega, HM9, ⟨by rw [HM.out, Nat.mul_add, Nat.pow_add, ← Nat.div_div_eq_div_mul]⟩, ⟨fun k hk => by simp [Value.ownBlock] at hk; subst hk; exact HGL.out⟩, HOT, ⟨by rw [pcs, ← HM.out, ← HQ.out.2]; exact HO9.out⟩, ⟨HB.out.trans (HB9.out.mono HB1.out.size)⟩, ⟨Nat.le_trans HSZ.out HB9.out.size⟩⟩
          | succ m =>
            obtain rfl : i' = (m : Int) := by omega
            clear hij
            obtain ⟨X, HX, ho1, ho2⟩ := HO.out.cell m (by omega)
            have HX2 : Aside0 ((words M).getD m 0 = X) := ⟨(HQE.out m (Nat.lt_succ_self m)).symm.trans HX.out⟩
            have HS := Aside0.mk (short_step (words M) Q m 1000000000 r X (dg_words M) (by have := HQL.out; omega) HX2.out HR.out (by decide) HV.out)
            have DX := Aside0.mk (HX2.out ▸ dg_getD (dg_words M) m : 0 ≤ X ∧ X < 4294967296)
            go_wp2_with (go_at_call 148; refine (div32_any _ _ _ _ HR.out.1 DX.out ⟨HR.out.2, by decide⟩).mono ?_; rintro e w9 ⟨rfl, hb9⟩; have HB9 := Aside0.mk hb9; have HO9 := Aside0.mk (HO.out.below hb9); have HP9 := Aside0.mk (HO8.out.below hb9); clear hb9; obtain ⟨Z9, _, ho19, ho29⟩ := HO9.out.cell m (by omega))
            go_roundg m
            case measure => omega
            case rel => exact ⟨m, _, _, Q.set m ((r * 4294967296 + X) / 1000000000), rfl, rfl, rfl, Nat.le_refl _, by omega, ⟨by rw [List.length_set]; exact HQL.out⟩, ⟨dg_set HQD.out _ _ HS.out.2.1⟩, ⟨HS.out.2.2⟩, ⟨HS.out.1⟩, ⟨fun k hk => by rw [getD_set _ _ _ _ (by have := HQL.out; omega), if_neg (by omega)]; exact HQE.out k (by omega)⟩, ⟨HO9.out.put m _⟩, ⟨HP9.out.other HGL.out _ _⟩, ⟨(HB.out.trans (HB9.out.mono HB.out.size)).setCell HGB.out _⟩, ⟨by have := HB9.out.size; have := HSZ.out; simp; omega⟩⟩

end Go.Proofs.YthknbknmlnnhcaaGreatDoor
