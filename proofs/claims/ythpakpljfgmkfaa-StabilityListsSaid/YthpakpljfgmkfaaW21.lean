/- StabilityBlind: a constant error and a constant frequency error change nothing. -/
import Derived.Test.YthpakpljfgmkfaaW20
namespace Go.Proofs.Ythpakpljfgmkfaa
open Go.RowKit

theorem lnL_chk {xs : List Int} {a b : Int} {N : Nat} (hN : N ≤ 1000) (hx : ∀ j, j < N → -2147483648 ≤ xs.getD j 0 ∧ xs.getD j 0 ≤ 2147483647) (ha : -2147483648 ≤ a ∧ a ≤ 2147483647) (hb : -32768 ≤ b ∧ b ≤ 32767) : chk (lnL xs a b N) = 0 := by
  refine chk_ok (by rw [lnL_len]; omega) (fun j hj => ?_)
  rw [lnL_len] at hj
  rw [lnL_get _ _ _ _ _ hj]
  have h := hx j hj
  have h1 : (b * (j : Int)).natAbs = b.natAbs * j := by rw [Int.natAbs_mul, Int.natAbs_natCast]
  have h2 : b.natAbs * j ≤ 32768 * 1000 := Nat.mul_le_mul (by omega) (by omega)
  omega
/-- Second differences do not see a line. -/
theorem lnL_s2 {xs : List Int} {a b : Int} {N i q : Nat} (h : i + 2 * q < N) : s2 (lnL xs a b N) i q = s2 (lnL xs 0 0 N) i q := by
  unfold s2
  rw [lnL_get _ _ _ _ _ h, lnL_get _ _ _ _ _ (show i + q < N by omega), lnL_get _ _ _ _ _ (show i < N by omega), lnL_get _ _ _ _ _ h, lnL_get _ _ _ _ _ (show i + q < N by omega), lnL_get _ _ _ _ _ (show i < N by omega)]
  have e1 : b * ((i + 2 * q : Nat) : Int) = b * (i : Int) + 2 * (b * (q : Int)) := by
    rw [Int.natCast_add, Int.natCast_mul, Int.mul_add, Int.mul_left_comm]; rfl
  have e2 : b * ((i + q : Nat) : Int) = b * (i : Int) + b * (q : Int) := by rw [Int.natCast_add, Int.mul_add]
  rw [e1, e2]
  simp only [Int.zero_mul]
  omega
theorem sqs_congr {f g : Nat → Nat} : ∀ k, (∀ j, j < k → f j = g j) → sqs f k = sqs g k
  | 0, _ => rfl
  | k + 1, h => by
    unfold sqs
    rw [h k (by omega), sqs_congr k (fun j hj => h j (by omega))]
theorem md0_congr {xs ys : List Int} {q j : Nat} : ∀ k, (∀ i, i < k → s2 xs (j + i) q = s2 ys (j + i) q) → md0 xs q j k = md0 ys q j k
  | 0, _ => rfl
  | k + 1, h => by
    unfold md0
    rw [h k (by omega), md0_congr k (fun i hi => h i (by omega))]
section
variable {xs : List Int} {a b : Int} {N : Nat} (hN : N ≤ 1000) (hx : ∀ j, j < N → -2147483648 ≤ xs.getD j 0 ∧ xs.getD j 0 ≤ 2147483647) (ha : -2147483648 ≤ a ∧ a ≤ 2147483647) (hb : -32768 ≤ b ∧ b ≤ 32767)
include hN hx ha hb
theorem blind_al (d : Int) : alE (lnL xs a b N) d = alE (lnL xs 0 0 N) d ∧ alR (lnL xs a b N) d = alR (lnL xs 0 0 N) d := by
  have h1 := lnL_chk hN hx ha hb
  have h2 := lnL_chk (a := 0) (b := 0) hN hx (by omega) (by omega)
  have hs : ¬ (d < 1 ∨ (N : Int) < d ∨ (N : Int) ≤ 2 * d) → sqs (a2 (lnL xs a b N) d.toNat) (N - 2 * d.toNat) = sqs (a2 (lnL xs 0 0 N) d.toNat) (N - 2 * d.toNat) := fun h =>
    sqs_congr _ (fun j hj => by unfold a2; rw [lnL_s2 (by omega)])
  have e : alE (lnL xs a b N) d = alE (lnL xs 0 0 N) d := by
    unfold alE
    rw [h1, h2, lnL_len, lnL_len, if_neg (show ¬ ((0 : Int) ≠ 0) from fun c => c rfl), if_neg (show ¬ ((0 : Int) ≠ 0) from fun c => c rfl)]
    by_cases h : d < 1 ∨ (N : Int) < d ∨ (N : Int) ≤ 2 * d
    · rw [if_pos h, if_pos h]
    · rw [if_neg h, if_neg h, hs h]
  refine ⟨e, ?_⟩
  unfold alR
  rw [e]
  by_cases h0 : alE (lnL xs 0 0 N) d = 0
  · rw [if_pos h0, if_pos h0, lnL_len, lnL_len]
    have h : ¬ (d < 1 ∨ (N : Int) < d ∨ (N : Int) ≤ 2 * d) := by
      intro h
      unfold alE at h0
      rw [h2, lnL_len, if_neg (show ¬ ((0 : Int) ≠ 0) from fun c => c rfl), if_pos h] at h0
      cases h0
    rw [hs h]
  · rw [if_neg h0, if_neg h0]
theorem blind_mo (d : Int) : moE (lnL xs a b N) d = moE (lnL xs 0 0 N) d ∧ moR (lnL xs a b N) d = moR (lnL xs 0 0 N) d := by
  have h1 := lnL_chk hN hx ha hb
  have h2 := lnL_chk (a := 0) (b := 0) hN hx (by omega) (by omega)
  have hs : ¬ (d < 1 ∨ (N : Int) < d ∨ (N : Int) < 3 * d) → sqs (mdA (lnL xs a b N) d.toNat) (N + 1 - 3 * d.toNat) = sqs (mdA (lnL xs 0 0 N) d.toNat) (N + 1 - 3 * d.toNat) := fun h =>
    sqs_congr _ (fun j hj => by unfold mdA; rw [md0_congr _ (fun i hi => lnL_s2 (by omega))])
  have e : moE (lnL xs a b N) d = moE (lnL xs 0 0 N) d := by
    unfold moE
    rw [h1, h2, lnL_len, lnL_len, if_neg (show ¬ ((0 : Int) ≠ 0) from fun c => c rfl), if_neg (show ¬ ((0 : Int) ≠ 0) from fun c => c rfl)]
    by_cases h : d < 1 ∨ (N : Int) < d ∨ (N : Int) < 3 * d
    · rw [if_pos h, if_pos h]
    · rw [if_neg h, if_neg h, hs h]
  refine ⟨e, ?_⟩
  unfold moR
  rw [e]
  by_cases h0 : moE (lnL xs 0 0 N) d = 0
  · rw [if_pos h0, if_pos h0, lnL_len, lnL_len]
    have h : ¬ (d < 1 ∨ (N : Int) < d ∨ (N : Int) < 3 * d) := by
      intro h
      unfold moE at h0
      rw [h2, lnL_len, if_neg (show ¬ ((0 : Int) ≠ 0) from fun c => c rfl), if_pos h] at h0
      cases h0
    rw [hs h]
  · rw [if_neg h0, if_neg h0]
theorem blind_dt : dtE (lnL xs a b N) = dtE (lnL xs 0 0 N) ∧ dtR (lnL xs a b N) = dtR (lnL xs 0 0 N) := by
  have h1 := lnL_chk hN hx ha hb
  have h2 := lnL_chk (a := 0) (b := 0) hN hx (by omega) (by omega)
  have e : dtE (lnL xs a b N) = dtE (lnL xs 0 0 N) := by
    unfold dtE
    rw [h1, h2, lnL_len, lnL_len]
  refine ⟨e, ?_⟩
  unfold dtR
  rw [e]
  by_cases h0 : dtE (lnL xs 0 0 N) = 0
  · rw [if_pos h0, if_pos h0]
    have hN2 : 2 ≤ N := by
      unfold dtE at h0
      rw [h2, lnL_len, if_neg (show ¬ ((0 : Int) ≠ 0) from fun c => c rfl)] at h0
      by_cases h : N < 2
      · rw [if_pos h] at h0; cases h0
      · omega
    unfold dtV
    rw [lnL_len, lnL_len]
    apply List.map_congr_left
    intro j hj
    have hj : j < N := by simpa using hj
    unfold dtr
    rw [lnL_len, lnL_len, lnL_get _ _ _ _ _ hj, lnL_get _ _ _ _ _ (show 0 < N by omega), lnL_get _ _ _ _ _ (show N - 1 < N by omega), lnL_get _ _ _ _ _ hj, lnL_get _ _ _ _ _ (show 0 < N by omega), lnL_get _ _ _ _ _ (show N - 1 < N by omega)]
    simp only [Int.zero_mul, Int.add_zero, Int.natCast_zero, Int.mul_zero]
    obtain ⟨m, hm⟩ : ∃ m, m = N - 1 := ⟨_, rfl⟩
    rw [← hm]
    have hm0 : (m : Int) ≠ 0 := by omega
    have e3 : (xs.getD m 0 + a + b * (m : Int) - (xs.getD 0 0 + a)) * (j : Int) = (xs.getD m 0 - xs.getD 0 0) * (j : Int) + (m : Int) * (b * (j : Int)) := by
      have e4 : xs.getD m 0 + a + b * (m : Int) - (xs.getD 0 0 + a) = (xs.getD m 0 - xs.getD 0 0) + (m : Int) * b := by rw [Int.mul_comm b]; omega
      rw [e4, Int.add_mul, Int.mul_assoc]
    rw [e3, Int.add_mul_ediv_left _ _ hm0]
    omega
  · rw [if_neg h0, if_neg h0]
end
end Go.Proofs.Ythpakpljfgmkfaa
