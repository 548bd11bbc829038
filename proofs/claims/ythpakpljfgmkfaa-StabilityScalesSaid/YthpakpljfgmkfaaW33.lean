/- Modified is Allan for the distance 1; whether all second differences are 0; a quotient in lowest terms. Plain. -/
import Derived.Test.YthpakpljfgmkfaaW22
namespace Go.Proofs.Ythpakpljfgmkfaa
open Go.RowKit

theorem md_one (xs : List Int) (j : Nat) : mdA xs 1 j = a2 xs 1 j := by
  have h : md0 xs 1 j 1 = 0 + s2 xs (j + 0) 1 := rfl
  unfold mdA a2
  rw [h]
  simp
theorem one_E (xs : List Int) : moE xs 1 = alE xs 1 := by
  unfold moE alE
  have e1 : ((1 : Int)).toNat = 1 := rfl
  rw [e1]
  by_cases h : xs.length < 3
  · rw [if_pos (show (1 : Int) < 1 ∨ (xs.length : Int) < 1 ∨ (xs.length : Int) < 3 * 1 by omega), if_pos (show (1 : Int) < 1 ∨ (xs.length : Int) < 1 ∨ (xs.length : Int) ≤ 2 * 1 by omega)]
  · rw [if_neg (show ¬ ((1 : Int) < 1 ∨ (xs.length : Int) < 1 ∨ (xs.length : Int) < 3 * 1) by omega), if_neg (show ¬ ((1 : Int) < 1 ∨ (xs.length : Int) < 1 ∨ (xs.length : Int) ≤ 2 * 1) by omega),
      show xs.length + 1 - 3 * 1 = xs.length - 2 * 1 by omega, sqs_congr _ (fun j _ => md_one xs j)]
theorem one_R (xs : List Int) : moR xs 1 = alR xs 1 := by
  unfold moR alR
  rw [one_E xs]
  have e1 : ((1 : Int)).toNat = 1 := rfl
  rw [e1]
  by_cases h : alE xs 1 = 0
  · rw [if_pos h, if_pos h, show xs.length + 1 - 3 * 1 = xs.length - 2 * 1 by omega, sqs_congr _ (fun j _ => md_one xs j)]
  · rw [if_neg h, if_neg h]
theorem one_short {xs : List Int} (hc : chk xs = 0) (h : xs.length < 3) : alE xs 1 = 3 ∧ alR xs 1 = .agg #[.int .i64 0, .int .i64 0] := by
  have e : alE xs 1 = 3 := by
    unfold alE
    rw [if_neg (not_not_intro hc), if_pos (show (1 : Int) < 1 ∨ (xs.length : Int) < 1 ∨ (xs.length : Int) ≤ 2 * 1 by omega)]
  refine ⟨e, ?_⟩
  unfold alR
  rw [e, if_neg (by decide)]
theorem one_over {xs : List Int} (hc : chk xs = 0) (h : 3 ≤ xs.length) (hs : ¬ sqs (a2 xs 1) (xs.length - 2) ≤ 9223372036854775807) : alE xs 1 = 4 ∧ alR xs 1 = .agg #[.int .i64 0, .int .i64 0] := by
  have e : alE xs 1 = 4 := by
    unfold alE
    rw [if_neg (not_not_intro hc), if_neg (show ¬ ((1 : Int) < 1 ∨ (xs.length : Int) < 1 ∨ (xs.length : Int) ≤ 2 * 1) by omega)]
    exact if_neg hs
  refine ⟨e, ?_⟩
  unfold alR
  rw [e, if_neg (by decide)]
theorem one_fine {xs : List Int} (hc : chk xs = 0) (h : 3 ≤ xs.length) (hs : sqs (a2 xs 1) (xs.length - 2) ≤ 9223372036854775807) : alE xs 1 = 0 ∧ alR xs 1 = ratI (sqs (a2 xs 1) (xs.length - 2)) (2 * (xs.length - 2)) := by
  have e : alE xs 1 = 0 := by
    unfold alE
    rw [if_neg (not_not_intro hc), if_neg (show ¬ ((1 : Int) < 1 ∨ (xs.length : Int) < 1 ∨ (xs.length : Int) ≤ 2 * 1) by omega)]
    exact if_pos hs
  refine ⟨e, ?_⟩
  unfold alR
  rw [e, if_pos rfl]
  rfl
/-- Whether the first k second differences are 0. -/
def flt (xs : List Int) : Nat → Bool
  | 0 => true
  | k + 1 => flt xs k && decide (s2 xs k 1 = 0)
theorem flt_sqs (xs : List Int) : ∀ k, flt xs k = decide (sqs (a2 xs 1) k = 0)
  | 0 => rfl
  | k + 1 => by
    have e : sqs (a2 xs 1) (k + 1) = a2 xs 1 k * a2 xs 1 k + sqs (a2 xs 1) k := rfl
    have e2 : flt xs (k + 1) = (flt xs k && decide (s2 xs k 1 = 0)) := rfl
    rw [e2, flt_sqs xs k, e]
    by_cases h : s2 xs k 1 = 0
    · have h2 : a2 xs 1 k = 0 := by unfold a2; rw [h]; rfl
      rw [h2, Nat.zero_mul, Nat.zero_add, decide_eq_true h, Bool.and_true]
    · have h2 : 0 < a2 xs 1 k := by unfold a2; omega
      have h3 := Nat.mul_pos h2 h2
      rw [decide_eq_false h, Bool.and_false, decide_eq_false (by omega)]
/-- A quotient in lowest terms: coprime, and 0/1 exactly for 0. -/
theorem low_terms {S D : Nat} (hD : 0 < D) (hS : S ≤ 9223372036854775807) (hD2 : D ≤ 9223372036854775807) : ∃ X Y : Nat, ratI S D = .agg #[.int .i64 (X : Int), .int .i64 (Y : Int)] ∧ X ≤ 9223372036854775807 ∧ Y ≤ 9223372036854775807 ∧ 0 < Y ∧ Nat.gcd X Y = 1 ∧ (S = 0 → X = 0 ∧ Y = 1) ∧ (S ≠ 0 → X ≠ 0) := by
  have hg : 0 < Nat.gcd S D := Nat.gcd_pos_of_pos_right _ hD
  refine ⟨S / Nat.gcd S D, D / Nat.gcd S D, rfl, Nat.le_trans (Nat.div_le_self _ _) hS, Nat.le_trans (Nat.div_le_self _ _) hD2, Nat.div_pos (Nat.le_of_dvd hD (Nat.gcd_dvd_right _ _)) hg, ?_, ?_, ?_⟩
  · rw [Nat.gcd_div (Nat.gcd_dvd_left _ _) (Nat.gcd_dvd_right _ _), Nat.div_self hg]
  · rintro rfl
    rw [Nat.gcd_zero_left, Nat.zero_div, Nat.div_self hD]
    exact ⟨rfl, rfl⟩
  · intro h
    have := Nat.div_pos (Nat.le_of_dvd (Nat.pos_of_ne_zero h) (Nat.gcd_dvd_left S D)) hg
    omega
end Go.Proofs.Ythpakpljfgmkfaa
