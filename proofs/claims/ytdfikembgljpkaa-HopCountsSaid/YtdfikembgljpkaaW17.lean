/- The error of a chain. -/
import Derived.Test.YtdfikembgljpkaaW16
namespace Go.Proofs.Ytdfikembgljpkaa
open Go.RowKit

/-- The first error of the hops before k, or 0. -/
noncomputable def ferr (big : Int) (xs : List Int) (ss : List (List Int)) : Nat → Int
  | 0 => 0
  | k + 1 => if ferr big xs ss k ≠ 0 then ferr big xs ss k else errk big xs ss k
theorem ferr_good {big : Int} {xs : List Int} {ss : List (List Int)} : ∀ k, goodk big xs ss k → ferr big xs ss k = 0
  | 0, _ => rfl
  | k + 1, h => by
    have ih := ferr_good k (fun j hj => h j (by omega))
    unfold ferr
    rw [if_neg (by rw [ih]; exact fun c => c rfl)]
    exact h k (by omega)
theorem ferr_bad {big : Int} {xs : List Int} {ss : List (List Int)} {k n : Nat} (h : goodk big xs ss k) (he : errk big xs ss k ≠ 0) (hn : k < n) : ferr big xs ss n = errk big xs ss k := by
  induction n with
  | zero => omega
  | succ n ih =>
    rcases Nat.lt_or_ge k n with h1 | h1
    · have e := ih h1
      unfold ferr
      rw [if_pos (by rw [e]; exact he), e]
    · obtain rfl : k = n := by omega
      unfold ferr
      rw [if_neg (by rw [ferr_good _ h]; exact fun c => c rfl)]
theorem goodk_succ {big : Int} {xs : List Int} {ss : List (List Int)} {k : Nat} (h : goodk big xs ss k) (e : errk big xs ss k = 0) : goodk big xs ss (k + 1) := fun j hj => by
  rcases Nat.lt_or_ge j k with h1 | h1
  · exact h j h1
  · obtain rfl : j = k := by omega
    exact e
/-- What one good hop gives: the sum does not wrap, and there are at most 512 messages. -/
theorem hop_fits {big : Int} {xs : List Int} {ss : List (List Int)} {k : Nat} (h : goodk big xs ss k) (e : errk big xs ss k = 0) (hk : k ≤ 16) :
    (arrk xs ss k).length = (ss.getD k []).length ∧ xs.length ≤ 512 ∧ fits (arrk xs ss k) (ss.getD k []) (arrk xs ss k).length := by
  obtain ⟨h1, h2, h3, h4⟩ := chk_zero e
  refine ⟨h1, by rw [arrk_len] at h2; exact h2, ?_⟩
  have hb : ∀ j, j < (arrk xs ss k).length → (arrk xs ss k).getD j 0 ≤ limk k := by
    intro i hi
    rcases Nat.eq_zero_or_pos k with rfl | hp
    · have := (h3 i hi).2.1
      simpa [latk, limk] using this
    · exact arrk_bound h hp i (by rw [arrk_len] at hi; exact hi)
  exact fits_of (oks_cut h3 hb) (by unfold limk; omega) (by unfold limk; omega) h2
end Go.Proofs.Ytdfikembgljpkaa
