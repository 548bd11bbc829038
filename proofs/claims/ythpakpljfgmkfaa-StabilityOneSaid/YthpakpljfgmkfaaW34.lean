/- StabilityOne, walked. -/
import Derived.Test.YthpakpljfgmkfaaW33
namespace Go.Proofs.Ythpakpljfgmkfaa
open Go.RowKit

theorem LI.drewN {w : World} {A : Option Addr} {n B : Nat} {xs : List Int} (h : LI w A n B xs) (k : Nat) : LI (w.drewN k) A n B xs := h.frm ((Frm.refl w NoB).drewN k)
theorem sl23 (A : Option Addr) (n c N : Nat) (hN : N ≤ n) (hc : n ≤ c) : ∃ A1,
    (∀ w, (Instr.sliceAt 23 (.slice A n c) none (some (.int .i64 (N : Int))) none).run Try.prog w = .ok (.slice A1 N c) w) ∧ ∀ b o, 0 < N → A = some ⟨b, o, none⟩ → A1 = some ⟨b, o, none⟩ := by
  have hu : Try.prog.underlying 23 = some (.slice (Try.prog.elem 23)) := by kernel_rfl
  have hs : ∀ w, (sizeOf (Try.prog.elem 23)).run Try.prog w = .ok 1 w := fun w => by kernel_rfl
  refine ⟨if c = 0 then A else A.map (·.add (0 * 1)), fun w => ?_, fun b o h e => ?_⟩
  · rw [run_sliceAt_slice _ _ _ _ _ _ hu, run_slice_h _ _ _ _ _ hu .i64 (N : Int) (by omega) (by omega), hs]
    simp [Result.andThen, sliced]
  · subst e
    rw [if_neg (by omega)]
    simp [Addr.add]

section
variable {A : Option Addr} {n c B N M : Nat} {xs L : List Int} {w : World}
set_option maxHeartbeats 8000000 in
theorem one_short_w (HN : Hid (N = min n 1000)) (HL : Hid (lnL xs 0 0 N = L)) (hX : LX w A n B xs) (hc : n ≤ c) (hN3 : N < 3) (Q1 : Hid (alE L 1 = 3)) (R1 : Hid (alR L 1 = .agg #[.int .i64 0, .int .i64 0])) (Q2 : Hid (moE L 1 = 3)) (R2 : Hid (moR L 1 = .agg #[.int .i64 0, .int .i64 0])) :
    Calls Try.prog 9 #[.slice A n c] w fun e w' => e = .returned (.bool true) ∧ Frm w w' NoB := by
  have hz : (-2147483648 : Int) ≤ 0 ∧ (0 : Int) ≤ 2147483647 := by decide
  have hz2 : (-32768 : Int) ≤ 0 ∧ (0 : Int) ≤ 32767 := by decide
  have hF : Frm w w NoB := Frm.refl w _
  have g1 : decide ((N : Int) < 3) = true := decide_eq_true (by omega)
  have g2 : (N : Int) < 3 := by omega
  have HM : Hid (0 ≤ N) := Nat.zero_le N
  go_enter Try.func9, Try.ntmps9
  go_wp2_with (first
    | (go_at_call 12; (with_reducible refine (line_b HL hX hc HN hz hz2).mono ?_); rintro e x1 ⟨A9, c9, rfl, hc9, hL, f1⟩; replace hF := hF.trans f1 (fun _ _ h => h); skip; clear f1)
    | (go_at_call 25; (with_reducible refine (allan_s Q1 R1 hL).mono ?_); rintro e x3 ⟨rfl, f1⟩; replace hL := (hL.frm f1).alloc (.cells #[.int .i64 (0 : Int), .int .i64 (0 : Int)] 41); replace hF := (hF.trans f1 (fun _ _ h => h)).alloc (.cells #[.int .i64 (0 : Int), .int .i64 (0 : Int)] 41); have b1 := Blk.new x3 41 #[.int .i64 (0 : Int), .int .i64 (0 : Int)]; clear f1)
    | (go_at_call 27; (with_reducible refine (modif_s Q2 R2 hL).mono ?_); rintro e x5 ⟨rfl, f1⟩; replace hL := (hL.frm f1).alloc (.cells #[.int .i64 (0 : Int), .int .i64 (0 : Int)] 41); replace hF := (hF.trans f1 (fun _ _ h => h)).alloc (.cells #[.int .i64 (0 : Int), .int .i64 (0 : Int)] 41); replace b1 := (b1.frm f1 (fun h => h)).alloc (.cells #[.int .i64 (0 : Int), .int .i64 (0 : Int)] 41); have b2 := Blk.new x5 41 #[.int .i64 (0 : Int), .int .i64 (0 : Int)]; clear f1; have k1 := b1.cellIs (i := 0) rfl; have k2 := b1.cellIs (i := 1) rfl; have k3 := b2.cellIs (i := 0) rfl; have k4 := b2.cellIs (i := 1) rfl)
    | (go_at_call 16; (with_reducible refine (awake_t _).mono ?_); rintro e x9 ⟨rfl, f1⟩; replace hF := hF.trans f1 (fun _ _ h => h); clear f1))
  go_ret
  exact ⟨rfl, hF⟩
set_option maxHeartbeats 16000000 in
theorem one_over_w (HN : Hid (N = min n 1000)) (HL : Hid (lnL xs 0 0 N = L)) (hX : LX w A n B xs) (hc : n ≤ c) (HMN : Hid (M + 2 = N)) (HM1 : 1 ≤ M) (HLN : Hid (L.length = N)) (HO : Hid (okl L L.length)) (HFLT : Hid (flt L M = false)) (Q1 : Hid (alE L 1 = 4)) (R1 : Hid (alR L 1 = .agg #[.int .i64 0, .int .i64 0])) (Q2 : Hid (moE L 1 = 4)) (R2 : Hid (moR L 1 = .agg #[.int .i64 0, .int .i64 0])) :
    Calls Try.prog 9 #[.slice A n c] w fun e w' => e = .returned (.bool true) ∧ Frm w w' NoB := by
  have hz : (-2147483648 : Int) ≤ 0 ∧ (0 : Int) ≤ 2147483647 := by decide
  have hz2 : (-32768 : Int) ≤ 0 ∧ (0 : Int) ≤ 32767 := by decide
  have hF : Frm w w NoB := Frm.refl w _
  have hNb : N ≤ 1000 := by have := HN.out; omega
  have g1 : decide ((N : Int) < 3) = false := decide_eq_false (by have := HMN.out; omega)
  have g2 : ¬ (N : Int) < 3 := by have := HMN.out; omega
  have HM : Hid (M ≤ N) := by have := HMN.out; unfold Hid; omega
  have t0 : IntKind.i64.wrap ((N : Int) - 2) = (M : Int) := by have := HMN.out; rw [IntWalk.i64_in _ (by omega)]; omega
  go_enter Try.func9, Try.ntmps9
  go_wp2_with (first
    | (go_at_call 12; (with_reducible refine (line_b HL hX hc HN hz hz2).mono ?_); rintro e x1 ⟨A9, c9, rfl, hc9, hL, f1⟩; replace hF := hF.trans f1 (fun _ _ h => h); obtain ⟨A53, sl, _⟩ := sl23 A9 N c9 M HM.out hc9; clear f1)
    | (go_at_call 25; (with_reducible refine (allan_s Q1 R1 hL).mono ?_); rintro e x3 ⟨rfl, f1⟩; replace hL := (hL.frm f1).alloc (.cells #[.int .i64 (0 : Int), .int .i64 (0 : Int)] 41); replace hF := (hF.trans f1 (fun _ _ h => h)).alloc (.cells #[.int .i64 (0 : Int), .int .i64 (0 : Int)] 41); have b1 := Blk.new x3 41 #[.int .i64 (0 : Int), .int .i64 (0 : Int)]; clear f1)
    | (go_at_call 27; (with_reducible refine (modif_s Q2 R2 hL).mono ?_); rintro e x5 ⟨rfl, f1⟩; replace hL := (hL.frm f1).alloc (.cells #[.int .i64 (0 : Int), .int .i64 (0 : Int)] 41); replace hF := (hF.trans f1 (fun _ _ h => h)).alloc (.cells #[.int .i64 (0 : Int), .int .i64 (0 : Int)] 41); replace b1 := (b1.frm f1 (fun h => h)).alloc (.cells #[.int .i64 (0 : Int), .int .i64 (0 : Int)] 41); have b2 := Blk.new x5 41 #[.int .i64 (0 : Int), .int .i64 (0 : Int)]; clear f1; have k1 := b1.cellIs (i := 0) rfl; have k2 := b1.cellIs (i := 1) rfl; have k3 := b2.cellIs (i := 0) rfl; have k4 := b2.cellIs (i := 1) rfl)
    | (go_at_call 16; (with_reducible refine (awake_t _).mono ?_); rintro e x9 ⟨rfl, f1⟩; replace hF := hF.trans f1 (fun _ _ h => h); clear f1))
  clear k1 k2 k3 k4 b2 hX
  go_loopw [8, 9, 55] (fun f _ i wr => ∃ k : Nat, k ≤ M ∧ i = .int .i64 k ∧ f = .bool (flt L k) ∧ LI wr A9 N x1.heap.size L ∧ Frm w wr NoB ∧ Blk wr x3.heap.size 41 #[.int .i64 (0 : Int), .int .i64 (0 : Int)]) (fun _ _ i _ => M - (intOf i).toNat)
  case atStart => exact ⟨0, Nat.zero_le _, rfl, rfl, hL, hF, b1⟩
  case round =>
    clear hF hL b1
    obtain ⟨k, hk, rfl, rfl, hL, hF, b1⟩ := hrel
    have hMM := HMN.out
    by_cases hlt : k < M
    · obtain ⟨bb, o, rfl, _, hcell⟩ := hL.hA.pos (by rw [HLN.out]; omega)
      have HK : Hid (okl L L.length) := HO
      have q1 := hcell (k + 2) (by rw [HLN.out]; omega)
      have q2 := hcell (k + 1) (by rw [HLN.out]; omega)
      have q3 := hcell k (by rw [HLN.out]; omega)
      have o1 := HK.out (k + 2) (by rw [HLN.out]; omega)
      have o2 := HK.out (k + 1) (by rw [HLN.out]; omega)
      have o3 := HK.out k (by rw [HLN.out]; omega)
      have hs : s2 L k 1 = L.getD (k + 2) 0 - 2 * L.getD (k + 1) 0 + L.getD k 0 := rfl
      have hfl : flt L (k + 1) = (flt L k && decide (s2 L k 1 = 0)) := rfl
      obtain ⟨z, hz⟩ : ∃ x, x = L.getD (k + 2) 0 := ⟨_, rfl⟩
      obtain ⟨y, hy⟩ : ∃ x, x = L.getD (k + 1) 0 := ⟨_, rfl⟩
      obtain ⟨x, hx⟩ : ∃ x, x = L.getD k 0 := ⟨_, rfl⟩
      obtain ⟨K2, hK2⟩ : ∃ K2, K2 = k + 2 := ⟨_, rfl⟩
      obtain ⟨K1, hK1⟩ : ∃ K1, K1 = k + 1 := ⟨_, rfl⟩
      rw [← hz] at hs q1 o1
      rw [← hy] at hs q2 o2
      rw [← hx] at hs q3 o3
      rw [← hK2] at q1
      rw [← hK1] at q2
      have t1 : IntKind.i64.wrap ((k : Int) + 2) = (K2 : Int) := by rw [IntWalk.i64_in _ (by omega)]; omega
      have t2 : IntKind.i64.wrap ((k : Int) + 1) = (K1 : Int) := by rw [IntWalk.i64_in _ (by omega)]; omega
      have t3 : IntKind.i64.wrap (2 * y) = 2 * y := IntWalk.i64_in _ (by omega)
      have t4 : IntKind.i64.wrap (z - 2 * y) = z - 2 * y := IntWalk.i64_in _ (by omega)
      have t5 : IntKind.i64.wrap (z - 2 * y + x) = s2 L k 1 := by rw [IntWalk.i64_in _ (by omega), hs]
      have a1 : (0 : Int) ≤ (K2 : Int) := Int.natCast_nonneg _
      have a2 : (K2 : Int) < (N : Int) := by omega
      have a3 : (0 : Int) ≤ (K1 : Int) := Int.natCast_nonneg _
      have a4 : (K1 : Int) < (N : Int) := by omega
      have a5 : (0 : Int) ≤ (k : Int) := Int.natCast_nonneg _
      have a6 : (k : Int) < (N : Int) := by omega
      obtain ⟨V, hV⟩ : ∃ x, x = s2 L k 1 := ⟨_, rfl⟩
      obtain ⟨p, hp⟩ : ∃ x, x = flt L k := ⟨_, rfl⟩
      rw [← hV] at t5 hfl
      rw [← hp] at hfl ⊢
      have HK1 := Lib.hid hK1
      clear hcell hz hy hx hV hp hs o1 o2 o3 hK1 hK2 hMM
      cases p
      · rw [Bool.false_and] at hfl
        have HFL := Lib.hid hfl
        clear hfl
        go_wp2
        go_quiet (fail)
        go_wp2
        go_roundw
        case rel => exact ⟨K1, by have := HK1.out; omega, by go_num, by rw [HK1.out, HFL.out], hL.drewN _, hF.drewN _, b1.drewN _⟩
        case measure => have := HK1.out; simp [intOf]; omega
      · rw [Bool.true_and] at hfl
        by_cases hv : V = 0
        · have hv2 : (V == 0) = true := by rw [hv]; rfl
          rw [decide_eq_true hv] at hfl
          have HFL := Lib.hid hfl
          clear hfl
          go_wp2
          go_quiet (fail)
          go_wp2
          go_roundw
          case rel => exact ⟨K1, by have := HK1.out; omega, by go_num, by rw [HK1.out, HFL.out], hL.drewN _, hF.drewN _, b1.drewN _⟩
          case measure => have := HK1.out; simp [intOf]; omega
        · have hv2 : (V == 0) = false := beq_eq_false_iff_ne.2 hv
          rw [decide_eq_false hv] at hfl
          have HFL := Lib.hid hfl
          clear hfl
          go_wp2
          go_quiet (fail)
          go_wp2
          go_roundw
          case rel => exact ⟨K1, by have := HK1.out; omega, by go_num, by rw [HK1.out, HFL.out], hL.drewN _, hF.drewN _, b1.drewN _⟩
          case measure => have := HK1.out; simp [intOf]; omega
    · obtain rfl : k = M := by omega
      rw [HFLT.out]
      have k1 := b1.cellIs (i := 0) rfl
      have k2 := b1.cellIs (i := 1) rfl
      go_wp2_with (first | (go_at_call 16; (with_reducible refine (awake_t _).mono ?_); rintro e x9 ⟨rfl, f1⟩; replace hF := hF.trans f1 (fun _ _ h => h); clear f1))
      go_ret
      exact ⟨rfl, hF⟩
set_option maxHeartbeats 16000000 in
theorem one_flat_w (HN : Hid (N = min n 1000)) (HL : Hid (lnL xs 0 0 N = L)) (hX : LX w A n B xs) (hc : n ≤ c) (HMN : Hid (M + 2 = N)) (HM1 : 1 ≤ M) (HLN : Hid (L.length = N)) (HO : Hid (okl L L.length)) (HFLT : Hid (flt L M = true)) (Q1 : Hid (alE L 1 = 0)) (R1 : Hid (alR L 1 = .agg #[.int .i64 0, .int .i64 1])) (Q2 : Hid (moE L 1 = 0)) (R2 : Hid (moR L 1 = .agg #[.int .i64 0, .int .i64 1])) :
    Calls Try.prog 9 #[.slice A n c] w fun e w' => e = .returned (.bool true) ∧ Frm w w' NoB := by
  have hz : (-2147483648 : Int) ≤ 0 ∧ (0 : Int) ≤ 2147483647 := by decide
  have hz2 : (-32768 : Int) ≤ 0 ∧ (0 : Int) ≤ 32767 := by decide
  have hF : Frm w w NoB := Frm.refl w _
  have hNb : N ≤ 1000 := by have := HN.out; omega
  have g1 : decide ((N : Int) < 3) = false := decide_eq_false (by have := HMN.out; omega)
  have g2 : ¬ (N : Int) < 3 := by have := HMN.out; omega
  have HM : Hid (M ≤ N) := by have := HMN.out; unfold Hid; omega
  have t0 : IntKind.i64.wrap ((N : Int) - 2) = (M : Int) := by have := HMN.out; rw [IntWalk.i64_in _ (by omega)]; omega
  have HG : Hid (Nat.gcd 0 1 = 1) := (by decide : Nat.gcd 0 1 = 1)
  have hXb : 0 ≤ 9223372036854775807 := by decide
  have hYb : 1 ≤ 9223372036854775807 := by decide
  go_enter Try.func9, Try.ntmps9
  go_wp2_with (first
    | (go_at_call 12; (with_reducible refine (line_b HL hX hc HN hz hz2).mono ?_); rintro e x1 ⟨A9, c9, rfl, hc9, hL, f1⟩; replace hF := hF.trans f1 (fun _ _ h => h); obtain ⟨A53, sl, _⟩ := sl23 A9 N c9 M HM.out hc9; clear f1)
    | (go_at_call 25; (with_reducible refine (allan_s Q1 R1 hL).mono ?_); rintro e x3 ⟨rfl, f1⟩; replace hL := (hL.frm f1).alloc (.cells #[.int .i64 (0 : Int), .int .i64 (1 : Int)] 41); replace hF := (hF.trans f1 (fun _ _ h => h)).alloc (.cells #[.int .i64 (0 : Int), .int .i64 (1 : Int)] 41); have b1 := Blk.new x3 41 #[.int .i64 (0 : Int), .int .i64 (1 : Int)]; clear f1)
    | (go_at_call 27; (with_reducible refine (modif_s Q2 R2 hL).mono ?_); rintro e x5 ⟨rfl, f1⟩; replace hL := (hL.frm f1).alloc (.cells #[.int .i64 (0 : Int), .int .i64 (1 : Int)] 41); replace hF := (hF.trans f1 (fun _ _ h => h)).alloc (.cells #[.int .i64 (0 : Int), .int .i64 (1 : Int)] 41); replace b1 := (b1.frm f1 (fun h => h)).alloc (.cells #[.int .i64 (0 : Int), .int .i64 (1 : Int)] 41); have b2 := Blk.new x5 41 #[.int .i64 (0 : Int), .int .i64 (1 : Int)]; clear f1; have k1 := b1.cellIs (i := 0) rfl; have k2 := b1.cellIs (i := 1) rfl; have k3 := b2.cellIs (i := 0) rfl; have k4 := b2.cellIs (i := 1) rfl)
    | (go_at_call 16; (with_reducible refine (awake_t _).mono ?_); rintro e x9 ⟨rfl, f1⟩; replace hF := hF.trans f1 (fun _ _ h => h); clear f1))
  clear k1 k2 k3 k4 b2 hX
  go_loopw [8, 9, 55] (fun f _ i wr => ∃ k : Nat, k ≤ M ∧ i = .int .i64 k ∧ f = .bool (flt L k) ∧ LI wr A9 N x1.heap.size L ∧ Frm w wr NoB ∧ Blk wr x3.heap.size 41 #[.int .i64 (0 : Int), .int .i64 (1 : Int)]) (fun _ _ i _ => M - (intOf i).toNat)
  case atStart => exact ⟨0, Nat.zero_le _, rfl, rfl, hL, hF, b1⟩
  case round =>
    clear hF hL b1
    obtain ⟨k, hk, rfl, rfl, hL, hF, b1⟩ := hrel
    have hMM := HMN.out
    by_cases hlt : k < M
    · obtain ⟨bb, o, rfl, _, hcell⟩ := hL.hA.pos (by rw [HLN.out]; omega)
      have HK : Hid (okl L L.length) := HO
      have q1 := hcell (k + 2) (by rw [HLN.out]; omega)
      have q2 := hcell (k + 1) (by rw [HLN.out]; omega)
      have q3 := hcell k (by rw [HLN.out]; omega)
      have o1 := HK.out (k + 2) (by rw [HLN.out]; omega)
      have o2 := HK.out (k + 1) (by rw [HLN.out]; omega)
      have o3 := HK.out k (by rw [HLN.out]; omega)
      have hs : s2 L k 1 = L.getD (k + 2) 0 - 2 * L.getD (k + 1) 0 + L.getD k 0 := rfl
      have hfl : flt L (k + 1) = (flt L k && decide (s2 L k 1 = 0)) := rfl
      obtain ⟨z, hz⟩ : ∃ x, x = L.getD (k + 2) 0 := ⟨_, rfl⟩
      obtain ⟨y, hy⟩ : ∃ x, x = L.getD (k + 1) 0 := ⟨_, rfl⟩
      obtain ⟨x, hx⟩ : ∃ x, x = L.getD k 0 := ⟨_, rfl⟩
      obtain ⟨K2, hK2⟩ : ∃ K2, K2 = k + 2 := ⟨_, rfl⟩
      obtain ⟨K1, hK1⟩ : ∃ K1, K1 = k + 1 := ⟨_, rfl⟩
      rw [← hz] at hs q1 o1
      rw [← hy] at hs q2 o2
      rw [← hx] at hs q3 o3
      rw [← hK2] at q1
      rw [← hK1] at q2
      have t1 : IntKind.i64.wrap ((k : Int) + 2) = (K2 : Int) := by rw [IntWalk.i64_in _ (by omega)]; omega
      have t2 : IntKind.i64.wrap ((k : Int) + 1) = (K1 : Int) := by rw [IntWalk.i64_in _ (by omega)]; omega
      have t3 : IntKind.i64.wrap (2 * y) = 2 * y := IntWalk.i64_in _ (by omega)
      have t4 : IntKind.i64.wrap (z - 2 * y) = z - 2 * y := IntWalk.i64_in _ (by omega)
      have t5 : IntKind.i64.wrap (z - 2 * y + x) = s2 L k 1 := by rw [IntWalk.i64_in _ (by omega), hs]
      have a1 : (0 : Int) ≤ (K2 : Int) := Int.natCast_nonneg _
      have a2 : (K2 : Int) < (N : Int) := by omega
      have a3 : (0 : Int) ≤ (K1 : Int) := Int.natCast_nonneg _
      have a4 : (K1 : Int) < (N : Int) := by omega
      have a5 : (0 : Int) ≤ (k : Int) := Int.natCast_nonneg _
      have a6 : (k : Int) < (N : Int) := by omega
      obtain ⟨V, hV⟩ : ∃ x, x = s2 L k 1 := ⟨_, rfl⟩
      obtain ⟨p, hp⟩ : ∃ x, x = flt L k := ⟨_, rfl⟩
      rw [← hV] at t5 hfl
      rw [← hp] at hfl ⊢
      have HK1 := Lib.hid hK1
      clear hcell hz hy hx hV hp hs o1 o2 o3 hK1 hK2 hMM
      cases p
      · rw [Bool.false_and] at hfl
        have HFL := Lib.hid hfl
        clear hfl
        go_wp2
        go_quiet (fail)
        go_wp2
        go_roundw
        case rel => exact ⟨K1, by have := HK1.out; omega, by go_num, by rw [HK1.out, HFL.out], hL.drewN _, hF.drewN _, b1.drewN _⟩
        case measure => have := HK1.out; simp [intOf]; omega
      · rw [Bool.true_and] at hfl
        by_cases hv : V = 0
        · have hv2 : (V == 0) = true := by rw [hv]; rfl
          rw [decide_eq_true hv] at hfl
          have HFL := Lib.hid hfl
          clear hfl
          go_wp2
          go_quiet (fail)
          go_wp2
          go_roundw
          case rel => exact ⟨K1, by have := HK1.out; omega, by go_num, by rw [HK1.out, HFL.out], hL.drewN _, hF.drewN _, b1.drewN _⟩
          case measure => have := HK1.out; simp [intOf]; omega
        · have hv2 : (V == 0) = false := beq_eq_false_iff_ne.2 hv
          rw [decide_eq_false hv] at hfl
          have HFL := Lib.hid hfl
          clear hfl
          go_wp2
          go_quiet (fail)
          go_wp2
          go_roundw
          case rel => exact ⟨K1, by have := HK1.out; omega, by go_num, by rw [HK1.out, HFL.out], hL.drewN _, hF.drewN _, b1.drewN _⟩
          case measure => have := HK1.out; simp [intOf]; omega
    · obtain rfl : k = M := by omega
      rw [HFLT.out]
      have k1 := b1.cellIs (i := 0) rfl
      have k2 := b1.cellIs (i := 1) rfl
      go_wp2
      go_quiet (fail)
      go_wp2
      go_loopw [10, 11] (fun u v wr2 => ∃ p y : Nat, p ≤ 9223372036854775807 ∧ y ≤ 9223372036854775807 ∧ u = .int .i64 p ∧ v = .int .i64 y ∧ Hid (Nat.gcd p y = 1) ∧ Frm w wr2 NoB ∧ Blk wr2 x3.heap.size 41 #[.int .i64 (0 : Int), .int .i64 (1 : Int)]) (fun _ v _ => (intOf v).toNat)
      case atStart => exact ⟨_, _, hXb, hYb, rfl, rfl, HG, hF.drewN _, b1.drewN _⟩
      case round =>
        clear hF b1 k1 k2 hL
        obtain ⟨p, y, hp, hy, rfl, rfl, HP, hF, b1⟩ := hrel
        by_cases h0 : y = 0
        · subst h0
          have hp1 : p = 1 := by have := HP.out; rw [Nat.gcd_zero_right] at this; exact this
          subst hp1
          have k1 := b1.cellIs (i := 0) rfl
          have k2 := b1.cellIs (i := 1) rfl
          go_wp2_with (first | (go_at_call 16; (with_reducible refine (awake_t _).mono ?_); rintro e x9 ⟨rfl, f1⟩; replace hF := hF.trans f1 (fun _ _ h => h); clear f1))
          go_ret
          exact ⟨rfl, hF⟩
        · have hb : decide ((0 : Int) < (y : Int)) = true := decide_eq_true (by omega)
          have hne : (y : Int) ≠ 0 := by omega
          have hpos : 0 < y := by omega
          have hlt := Nat.mod_lt p hpos
          obtain ⟨r, hr⟩ : ∃ r, r = p % y := ⟨_, rfl⟩
          have u1 : ((p : Int)).tmod (y : Int) = (r : Int) := by rw [hr]; rfl
          have u2 : IntKind.i64.wrap (r : Int) = (r : Int) := IntWalk.i64_in _ (by omega)
          have HG2 : Hid (Nat.gcd y r = 1) := by unfold Hid; rw [hr, ← HP.out, Nat.gcd_comm p y, Nat.gcd_rec y p, Nat.gcd_comm]
          have hry : r < y := by omega
          clear hr hlt
          go_wp2
          go_quiet (fail)
          go_wp2
          go_roundw
          case rel => exact ⟨y, r, hy, by omega, by trivial, by trivial, HG2, hF.drewN _, b1.drewN _⟩
          case measure => simp [intOf]; omega
set_option maxHeartbeats 16000000 in
theorem one_fine_w (HN : Hid (N = min n 1000)) (HL : Hid (lnL xs 0 0 N = L)) (hX : LX w A n B xs) (hc : n ≤ c) (HMN : Hid (M + 2 = N)) (HM1 : 1 ≤ M) (HLN : Hid (L.length = N)) (HO : Hid (okl L L.length)) (HFLT : Hid (flt L M = false)) (X Y : Nat) (hXb : X ≤ 9223372036854775807) (hYb : Y ≤ 9223372036854775807) (hX0 : 0 < X) (hY0 : 0 < Y) (HG : Hid (Nat.gcd X Y = 1)) (Q1 : Hid (alE L 1 = 0)) (R1 : Hid (alR L 1 = .agg #[.int .i64 (X : Int), .int .i64 (Y : Int)])) (Q2 : Hid (moE L 1 = 0)) (R2 : Hid (moR L 1 = .agg #[.int .i64 (X : Int), .int .i64 (Y : Int)])) :
    Calls Try.prog 9 #[.slice A n c] w fun e w' => e = .returned (.bool true) ∧ Frm w w' NoB := by
  have hz : (-2147483648 : Int) ≤ 0 ∧ (0 : Int) ≤ 2147483647 := by decide
  have hz2 : (-32768 : Int) ≤ 0 ∧ (0 : Int) ≤ 32767 := by decide
  have hF : Frm w w NoB := Frm.refl w _
  have hNb : N ≤ 1000 := by have := HN.out; omega
  have g1 : decide ((N : Int) < 3) = false := decide_eq_false (by have := HMN.out; omega)
  have g2 : ¬ (N : Int) < 3 := by have := HMN.out; omega
  have HM : Hid (M ≤ N) := by have := HMN.out; unfold Hid; omega
  have t0 : IntKind.i64.wrap ((N : Int) - 2) = (M : Int) := by have := HMN.out; rw [IntWalk.i64_in _ (by omega)]; omega
  have f1 : decide ((0 : Int) ≤ (X : Int)) = true := decide_eq_true (Int.natCast_nonneg _)
  have f2 : decide ((0 : Int) < (Y : Int)) = true := decide_eq_true (by omega)
  have f3 : ((X : Int) == 0) = false := beq_eq_false_iff_ne.2 (by omega)
  have f4 : ¬ X = 0 := by omega
  go_enter Try.func9, Try.ntmps9
  go_wp2_with (first
    | (go_at_call 12; (with_reducible refine (line_b HL hX hc HN hz hz2).mono ?_); rintro e x1 ⟨A9, c9, rfl, hc9, hL, f1⟩; replace hF := hF.trans f1 (fun _ _ h => h); obtain ⟨A53, sl, _⟩ := sl23 A9 N c9 M HM.out hc9; clear f1)
    | (go_at_call 25; (with_reducible refine (allan_s Q1 R1 hL).mono ?_); rintro e x3 ⟨rfl, f1⟩; replace hL := (hL.frm f1).alloc (.cells #[.int .i64 (X : Int), .int .i64 (Y : Int)] 41); replace hF := (hF.trans f1 (fun _ _ h => h)).alloc (.cells #[.int .i64 (X : Int), .int .i64 (Y : Int)] 41); have b1 := Blk.new x3 41 #[.int .i64 (X : Int), .int .i64 (Y : Int)]; clear f1)
    | (go_at_call 27; (with_reducible refine (modif_s Q2 R2 hL).mono ?_); rintro e x5 ⟨rfl, f1⟩; replace hL := (hL.frm f1).alloc (.cells #[.int .i64 (X : Int), .int .i64 (Y : Int)] 41); replace hF := (hF.trans f1 (fun _ _ h => h)).alloc (.cells #[.int .i64 (X : Int), .int .i64 (Y : Int)] 41); replace b1 := (b1.frm f1 (fun h => h)).alloc (.cells #[.int .i64 (X : Int), .int .i64 (Y : Int)] 41); have b2 := Blk.new x5 41 #[.int .i64 (X : Int), .int .i64 (Y : Int)]; clear f1; have k1 := b1.cellIs (i := 0) rfl; have k2 := b1.cellIs (i := 1) rfl; have k3 := b2.cellIs (i := 0) rfl; have k4 := b2.cellIs (i := 1) rfl)
    | (go_at_call 16; (with_reducible refine (awake_t _).mono ?_); rintro e x9 ⟨rfl, f1⟩; replace hF := hF.trans f1 (fun _ _ h => h); clear f1))
  clear k1 k2 k3 k4 b2 hX
  go_loopw [8, 9, 55] (fun f _ i wr => ∃ k : Nat, k ≤ M ∧ i = .int .i64 k ∧ f = .bool (flt L k) ∧ LI wr A9 N x1.heap.size L ∧ Frm w wr NoB ∧ Blk wr x3.heap.size 41 #[.int .i64 (X : Int), .int .i64 (Y : Int)]) (fun _ _ i _ => M - (intOf i).toNat)
  case atStart => exact ⟨0, Nat.zero_le _, rfl, rfl, hL, hF, b1⟩
  case round =>
    clear hF hL b1
    obtain ⟨k, hk, rfl, rfl, hL, hF, b1⟩ := hrel
    have hMM := HMN.out
    by_cases hlt : k < M
    · obtain ⟨bb, o, rfl, _, hcell⟩ := hL.hA.pos (by rw [HLN.out]; omega)
      have HK : Hid (okl L L.length) := HO
      have q1 := hcell (k + 2) (by rw [HLN.out]; omega)
      have q2 := hcell (k + 1) (by rw [HLN.out]; omega)
      have q3 := hcell k (by rw [HLN.out]; omega)
      have o1 := HK.out (k + 2) (by rw [HLN.out]; omega)
      have o2 := HK.out (k + 1) (by rw [HLN.out]; omega)
      have o3 := HK.out k (by rw [HLN.out]; omega)
      have hs : s2 L k 1 = L.getD (k + 2) 0 - 2 * L.getD (k + 1) 0 + L.getD k 0 := rfl
      have hfl : flt L (k + 1) = (flt L k && decide (s2 L k 1 = 0)) := rfl
      obtain ⟨z, hz⟩ : ∃ x, x = L.getD (k + 2) 0 := ⟨_, rfl⟩
      obtain ⟨y, hy⟩ : ∃ x, x = L.getD (k + 1) 0 := ⟨_, rfl⟩
      obtain ⟨x, hx⟩ : ∃ x, x = L.getD k 0 := ⟨_, rfl⟩
      obtain ⟨K2, hK2⟩ : ∃ K2, K2 = k + 2 := ⟨_, rfl⟩
      obtain ⟨K1, hK1⟩ : ∃ K1, K1 = k + 1 := ⟨_, rfl⟩
      rw [← hz] at hs q1 o1
      rw [← hy] at hs q2 o2
      rw [← hx] at hs q3 o3
      rw [← hK2] at q1
      rw [← hK1] at q2
      have t1 : IntKind.i64.wrap ((k : Int) + 2) = (K2 : Int) := by rw [IntWalk.i64_in _ (by omega)]; omega
      have t2 : IntKind.i64.wrap ((k : Int) + 1) = (K1 : Int) := by rw [IntWalk.i64_in _ (by omega)]; omega
      have t3 : IntKind.i64.wrap (2 * y) = 2 * y := IntWalk.i64_in _ (by omega)
      have t4 : IntKind.i64.wrap (z - 2 * y) = z - 2 * y := IntWalk.i64_in _ (by omega)
      have t5 : IntKind.i64.wrap (z - 2 * y + x) = s2 L k 1 := by rw [IntWalk.i64_in _ (by omega), hs]
      have a1 : (0 : Int) ≤ (K2 : Int) := Int.natCast_nonneg _
      have a2 : (K2 : Int) < (N : Int) := by omega
      have a3 : (0 : Int) ≤ (K1 : Int) := Int.natCast_nonneg _
      have a4 : (K1 : Int) < (N : Int) := by omega
      have a5 : (0 : Int) ≤ (k : Int) := Int.natCast_nonneg _
      have a6 : (k : Int) < (N : Int) := by omega
      obtain ⟨V, hV⟩ : ∃ x, x = s2 L k 1 := ⟨_, rfl⟩
      obtain ⟨p, hp⟩ : ∃ x, x = flt L k := ⟨_, rfl⟩
      rw [← hV] at t5 hfl
      rw [← hp] at hfl ⊢
      have HK1 := Lib.hid hK1
      clear hcell hz hy hx hV hp hs o1 o2 o3 hK1 hK2 hMM
      cases p
      · rw [Bool.false_and] at hfl
        have HFL := Lib.hid hfl
        clear hfl
        go_wp2
        go_quiet (fail)
        go_wp2
        go_roundw
        case rel => exact ⟨K1, by have := HK1.out; omega, by go_num, by rw [HK1.out, HFL.out], hL.drewN _, hF.drewN _, b1.drewN _⟩
        case measure => have := HK1.out; simp [intOf]; omega
      · rw [Bool.true_and] at hfl
        by_cases hv : V = 0
        · have hv2 : (V == 0) = true := by rw [hv]; rfl
          rw [decide_eq_true hv] at hfl
          have HFL := Lib.hid hfl
          clear hfl
          go_wp2
          go_quiet (fail)
          go_wp2
          go_roundw
          case rel => exact ⟨K1, by have := HK1.out; omega, by go_num, by rw [HK1.out, HFL.out], hL.drewN _, hF.drewN _, b1.drewN _⟩
          case measure => have := HK1.out; simp [intOf]; omega
        · have hv2 : (V == 0) = false := beq_eq_false_iff_ne.2 hv
          rw [decide_eq_false hv] at hfl
          have HFL := Lib.hid hfl
          clear hfl
          go_wp2
          go_quiet (fail)
          go_wp2
          go_roundw
          case rel => exact ⟨K1, by have := HK1.out; omega, by go_num, by rw [HK1.out, HFL.out], hL.drewN _, hF.drewN _, b1.drewN _⟩
          case measure => have := HK1.out; simp [intOf]; omega
    · obtain rfl : k = M := by omega
      rw [HFLT.out]
      have k1 := b1.cellIs (i := 0) rfl
      have k2 := b1.cellIs (i := 1) rfl
      go_wp2
      go_quiet (fail)
      go_wp2
      go_loopw [10, 11] (fun u v wr2 => ∃ p y : Nat, p ≤ 9223372036854775807 ∧ y ≤ 9223372036854775807 ∧ u = .int .i64 p ∧ v = .int .i64 y ∧ Hid (Nat.gcd p y = 1) ∧ Frm w wr2 NoB ∧ Blk wr2 x3.heap.size 41 #[.int .i64 (X : Int), .int .i64 (Y : Int)]) (fun _ v _ => (intOf v).toNat)
      case atStart => exact ⟨_, _, hXb, hYb, rfl, rfl, HG, hF.drewN _, b1.drewN _⟩
      case round =>
        clear hF b1 k1 k2 hL
        obtain ⟨p, y, hp, hy, rfl, rfl, HP, hF, b1⟩ := hrel
        by_cases h0 : y = 0
        · subst h0
          have hp1 : p = 1 := by have := HP.out; rw [Nat.gcd_zero_right] at this; exact this
          subst hp1
          have k1 := b1.cellIs (i := 0) rfl
          have k2 := b1.cellIs (i := 1) rfl
          go_wp2_with (first | (go_at_call 16; (with_reducible refine (awake_t _).mono ?_); rintro e x9 ⟨rfl, f1⟩; replace hF := hF.trans f1 (fun _ _ h => h); clear f1))
          go_ret
          exact ⟨rfl, hF⟩
        · have hb : decide ((0 : Int) < (y : Int)) = true := decide_eq_true (by omega)
          have hne : (y : Int) ≠ 0 := by omega
          have hpos : 0 < y := by omega
          have hlt := Nat.mod_lt p hpos
          obtain ⟨r, hr⟩ : ∃ r, r = p % y := ⟨_, rfl⟩
          have u1 : ((p : Int)).tmod (y : Int) = (r : Int) := by rw [hr]; rfl
          have u2 : IntKind.i64.wrap (r : Int) = (r : Int) := IntWalk.i64_in _ (by omega)
          have HG2 : Hid (Nat.gcd y r = 1) := by unfold Hid; rw [hr, ← HP.out, Nat.gcd_comm p y, Nat.gcd_rec y p, Nat.gcd_comm]
          have hry : r < y := by omega
          clear hr hlt
          go_wp2
          go_quiet (fail)
          go_wp2
          go_roundw
          case rel => exact ⟨y, r, hy, by omega, by trivial, by trivial, HG2, hF.drewN _, b1.drewN _⟩
          case measure => simp [intOf]; omega
end
end Go.Proofs.Ythpakpljfgmkfaa
