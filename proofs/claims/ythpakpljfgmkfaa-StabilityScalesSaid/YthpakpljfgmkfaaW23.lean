/- StabilityGrows: the plain law. -/
import Derived.Test.YthpakpljfgmkfaaW22
namespace Go.Proofs.Ythpakpljfgmkfaa
open Go.RowKit

theorem mx_ge (xs : List Int) (i : Nat) : ∀ k j, j < k → xs.getD (i + j) 0 ≤ mxI xs i k
  | 0, _, h => by omega
  | k + 1, j, h => by
    unfold mxI
    rcases Nat.lt_or_ge j k with h1 | h1
    · have := mx_ge xs i k j h1
      split <;> omega
    · obtain rfl : j = k := by omega
      split <;> omega
theorem mn_le (xs : List Int) (i : Nat) : ∀ k j, j < k → mnI xs i k ≤ xs.getD (i + j) 0
  | 0, _, h => by omega
  | k + 1, j, h => by
    unfold mnI
    rcases Nat.lt_or_ge j k with h1 | h1
    · have := mn_le xs i k j h1
      split <;> omega
    · obtain rfl : j = k := by omega
      split <;> omega
theorem mx_at (xs : List Int) (i : Nat) : ∀ k, ∃ j, j < k + 1 ∧ mxI xs i (k + 1) = xs.getD (i + j) 0
  | 0 => ⟨0, by omega, by unfold mxI; unfold mxI; rw [Nat.add_zero]; split <;> rfl⟩
  | k + 1 => by
    obtain ⟨j, hj, e⟩ := mx_at xs i k
    unfold mxI
    split
    · exact ⟨k + 1, by omega, rfl⟩
    · exact ⟨j, by omega, e⟩
theorem mn_at (xs : List Int) (i : Nat) : ∀ k, ∃ j, j < k + 1 ∧ mnI xs i (k + 1) = xs.getD (i + j) 0
  | 0 => ⟨0, by omega, by unfold mnI; unfold mnI; rw [Nat.add_zero]; split <;> rfl⟩
  | k + 1 => by
    obtain ⟨j, hj, e⟩ := mn_at xs i k
    unfold mnI
    split
    · exact ⟨k + 1, by omega, rfl⟩
    · exact ⟨j, by omega, e⟩
/-- A window within another. -/
theorem spread_in {xs : List Int} {i i' k k' : Nat} (h1 : i' ≤ i) (h2 : i + (k + 1) ≤ i' + (k' + 1)) : mxI xs i (k + 1) - mnI xs i (k + 1) ≤ mxI xs i' (k' + 1) - mnI xs i' (k' + 1) := by
  obtain ⟨j, hj, e⟩ := mx_at xs i k
  obtain ⟨l, hl, e2⟩ := mn_at xs i k
  have a := mx_ge xs i' (k' + 1) (i + j - i') (by omega)
  have b := mn_le xs i' (k' + 1) (i + l - i') (by omega)
  rw [show i' + (i + j - i') = i + j by omega] at a
  rw [show i' + (i + l - i') = i + l by omega] at b
  omega
theorem rng_ge (xs : List Int) (q : Nat) : ∀ i j, j < i → mxI xs j (q + 1) - mnI xs j (q + 1) ≤ rngF xs q i
  | 0, _, h => by omega
  | i + 1, j, h => by
    unfold rngF
    rcases Nat.lt_or_ge j i with h1 | h1
    · have := rng_ge xs q i j h1
      split <;> omega
    · obtain rfl : j = i := by omega
      split <;> omega
theorem rng_pos (xs : List Int) (q : Nat) : ∀ i, 0 ≤ rngF xs q i
  | 0 => Int.le_refl _
  | i + 1 => by
    have := rng_pos xs q i
    unfold rngF
    split <;> omega
theorem rng_le {xs : List Int} {q : Nat} {M : Int} (hM : 0 ≤ M) : ∀ i, (∀ j, j < i → mxI xs j (q + 1) - mnI xs j (q + 1) ≤ M) → rngF xs q i ≤ M
  | 0, _ => hM
  | i + 1, h => by
    have := rng_le (q := q) hM i (fun j hj => h j (by omega))
    have := h i (by omega)
    unfold rngF
    split <;> omega
/-- Range does not decrease. -/
theorem rng_grows (xs : List Int) {n q : Nat} (h : q + 1 < n) : rngF xs q (n - q) ≤ rngF xs (q + 1) (n - (q + 1)) := by
  refine rng_le (rng_pos _ _ _) _ (fun j hj => ?_)
  by_cases e : j < n - (q + 1)
  · exact Int.le_trans (spread_in (Nat.le_refl _) (by omega)) (rng_ge xs (q + 1) (n - (q + 1)) j e)
  · exact Int.le_trans (spread_in (i' := j - 1) (by omega) (by omega)) (rng_ge xs (q + 1) (n - (q + 1)) (j - 1) (by omega))
theorem rng_last (xs : List Int) {n : Nat} (h : 1 ≤ n) : rngF xs (n - 1) (n - (n - 1)) = mxI xs 0 n - mnI xs 0 n := by
  have e : n - (n - 1) = 1 := by omega
  have e2 : n - 1 + 1 = n := by omega
  rw [e]
  have hm := mn_mx xs 0 n
  unfold rngF
  rw [e2]
  unfold rngF
  split <;> omega
end Go.Proofs.Ythpakpljfgmkfaa
