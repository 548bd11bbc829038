/- HopCounts: the plain law. -/
import Derived.Test.YtdfikembgljpkaaW34
namespace Go.Proofs.Ytdfikembgljpkaa
open Go.RowKit

/-- The count of the statement: arrivals less departures until t. -/
def cnt (xs ys : List Int) (t : Int) : Nat → Int
  | 0 => 0
  | k + 1 => cnt xs ys t k + (if xs.getD k 0 ≤ t then 1 else 0) - (if ys.getD k 0 ≤ t then 1 else 0)
theorem cnt_blg {xs ys : List Int} {t : Int} {n : Nat} (h : ∀ j, j < n → xs.getD j 0 ≤ ys.getD j 0) : ∀ k, k ≤ n → cnt xs ys t k = (blg xs ys t k : Nat)
  | 0, _ => rfl
  | k + 1, hk => by
    have ih := cnt_blg (t := t) h k (by omega)
    have hj := h k (by omega)
    unfold cnt blg
    rw [ih]
    by_cases h1 : xs.getD k 0 ≤ t
    · by_cases h2 : ys.getD k 0 ≤ t
      · rw [if_pos h1, if_pos h2, if_neg (by omega)]; omega
      · rw [if_pos h1, if_neg h2, if_pos (by omega)]; omega
    · rw [if_neg h1, if_neg (by omega), if_neg (by omega)]; omega
theorem blg_pos {xs ys : List Int} {t : Int} : ∀ k, 0 < blg xs ys t k ↔ ∃ j, j < k ∧ xs.getD j 0 ≤ t ∧ t < ys.getD j 0
  | 0 => by
    constructor
    · intro h; exact absurd h (Nat.lt_irrefl 0)
    · rintro ⟨j, hj, _⟩; omega
  | k + 1 => by
    have ih := blg_pos (xs := xs) (ys := ys) (t := t) k
    unfold blg
    constructor
    · intro h
      by_cases h1 : xs.getD k 0 ≤ t ∧ t < ys.getD k 0
      · exact ⟨k, by omega, h1⟩
      · rw [if_neg h1] at h
        obtain ⟨j, hj, hp⟩ := ih.1 (by omega)
        exact ⟨j, by omega, hp⟩
    · rintro ⟨j, hj, hp⟩
      rcases Nat.lt_or_ge j k with h1 | h1
      · have := ih.2 ⟨j, h1, hp⟩
        omega
      · obtain rfl : j = k := by omega
        rw [if_pos hp]; omega
/-- Is t in one of the first j intervals? -/
def inn (l : List (Int × Int)) (t : Int) : Nat → Bool
  | 0 => false
  | j + 1 => inn l t j || (decide ((l.getD j (0, 0)).1 ≤ t) && decide (t < (l.getD j (0, 0)).2))
theorem inn_iff (l : List (Int × Int)) (t : Int) : ∀ j, j ≤ l.length → (inn l t j = true ↔ ∃ p ∈ l.take j, p.1 ≤ t ∧ t < p.2)
  | 0, _ => by simp [inn]
  | j + 1, hj => by
    have ih := inn_iff l t j (by omega)
    have e : l.getD j (0, 0) = l[j] := by simp [List.getD, show j < l.length by omega]
    unfold inn
    rw [Bool.or_eq_true, Bool.and_eq_true, ih, e, decide_eq_true_eq, decide_eq_true_eq]
    have et : l.take (j + 1) = l.take j ++ [l[j]] := List.take_succ_eq_append_getElem (by omega : j < l.length)
    rw [et]
    constructor
    · rintro (⟨p, hp, h⟩ | h)
      · exact ⟨p, List.mem_append_left _ hp, h⟩
      · exact ⟨l[j], List.mem_append_right _ (by simp), h⟩
    · rintro ⟨p, hp, h⟩
      rcases List.mem_append.1 hp with hp | hp
      · exact .inl ⟨p, hp, h⟩
      · simp at hp; subst hp; exact .inr h
theorem cnt_bounds (xs ys : List Int) (t : Int) : ∀ k : Nat, -(k : Int) ≤ cnt xs ys t k ∧ cnt xs ys t k ≤ k
  | 0 => ⟨by show -((0 : Nat) : Int) ≤ 0; decide, by show (0 : Int) ≤ ((0 : Nat) : Int); decide⟩
  | k + 1 => by
    have ih := cnt_bounds xs ys t k
    unfold cnt
    split <;> split <;> omega
theorem dl_ge {xs ys : List Int} {lim : Int} {n : Nat} (h : oks xs ys lim n) : ∀ j, j < n → xs.getD j 0 ≤ (deps xs ys n).getD j 0 := fun j hj => by
  rw [deps_get _ _ _ _ hj]
  have := (h j hj).2.2.1
  show _ ≤ mx (xs.getD j 0) (dl xs ys j) + ys.getD j 0
  unfold mx
  split <;> omega
/-- The law: the count is the backlog, and there is one just within the busy intervals. -/
theorem counts_law {xs ys : List Int} {lim t : Int} {n : Nat} (h : oks xs ys lim n) (hs : srt xs n) :
    cnt xs (deps xs ys n) t n = (blg xs (deps xs ys n) t n : Nat) ∧ decide (0 < blg xs (deps xs ys n) t n) = inn (bsy xs ys n) t (bsy xs ys n).length := by
  refine ⟨cnt_blg (dl_ge h) n (Nat.le_refl _), ?_⟩
  have hb := (bi_all h hs n (Nat.le_refl _)).cover t
  have hi := inn_iff (bsy xs ys n) t _ (Nat.le_refl _)
  rw [List.take_length] at hi
  have hp := blg_pos (xs := xs) (ys := deps xs ys n) (t := t) n
  have he : (∃ j, j < n ∧ xs.getD j 0 ≤ t ∧ t < (deps xs ys n).getD j 0) ↔ (∃ j, j < n ∧ xs.getD j 0 ≤ t ∧ t < dl xs ys (j + 1)) := by
    constructor
    · rintro ⟨j, hj, h1, h2⟩
      rw [deps_get _ _ _ _ hj] at h2
      exact ⟨j, hj, h1, h2⟩
    · rintro ⟨j, hj, h1, h2⟩
      exact ⟨j, hj, h1, by rw [deps_get _ _ _ _ hj]; exact h2⟩
  rw [Bool.eq_iff_iff, decide_eq_true_eq, hp, he, ← hb, hi]

end Go.Proofs.Ytdfikembgljpkaa
