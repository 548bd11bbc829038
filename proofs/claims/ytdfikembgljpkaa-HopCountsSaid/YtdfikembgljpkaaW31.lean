/- HopParts: the plain law. -/
import Derived.Test.YtdfikembgljpkaaW30
namespace Go.Proofs.Ytdfikembgljpkaa
open Go.RowKit

theorem arrk_take (xs : List Int) (ss : List (List Int)) (q : Nat) (hq : q ≤ ss.length) : ∀ k, k ≤ q → arrk xs (ss.take q) k = arrk xs ss k
  | 0, _ => rfl
  | k + 1, hk => by
    have e : (ss.take q).getD k [] = ss.getD k [] := by
      simp [List.getD, show k < q by omega]
    rw [arrk, arrk, arrk_take xs ss q hq k (by omega), e]
theorem arrk_drop (xs : List Int) (ss : List (List Int)) (q : Nat) : ∀ j, arrk (arrk xs ss q) (ss.drop q) j = arrk xs ss (q + j)
  | 0 => rfl
  | j + 1 => by
    have e : (ss.drop q).getD j [] = ss.getD (q + j) [] := by simp [List.getD]
    rw [arrk, arrk_drop xs ss q j, e]
    rfl
theorem chE_len {xs : List Int} {ss : List (List Int)} (h : chE xs ss = 0) : ss.length ≤ 16 := by
  unfold chE at h
  by_cases h1 : 16 < ss.length
  · rw [if_pos h1] at h; cases h
  · omega
theorem chE_good {xs : List Int} {ss : List (List Int)} (h : chE xs ss = 0) : goodk big xs ss ss.length := by
  have h1 := chE_len h
  unfold chE at h
  rw [if_neg (by omega)] at h
  by_cases h2 : ss.length = 0
  · rw [h2]; exact fun _ h => by omega
  · rw [if_neg h2] at h
    exact ferr_zero _ h
theorem chE_of_good {xs : List Int} {ss : List (List Int)} (h1 : ss.length ≤ 16) (h2 : ss.length ≠ 0) (h : goodk big xs ss ss.length) : chE xs ss = 0 := by
  unfold chE
  rw [if_neg (by omega), if_neg h2]
  exact ferr_good _ h
theorem dl_mono {xs ys : List Int} {lim : Int} {n : Nat} (h : oks xs ys lim n) (k : Nat) (hk : k < n) : dl xs ys k ≤ dl xs ys (k + 1) := by
  have := (h k hk).2.2.1
  show _ ≤ mx (xs.getD k 0) (dl xs ys k) + ys.getD k 0
  unfold mx
  split <;> omega
/-- What is known of the arrivals behind a good hop. -/
theorem arrk_good {xs : List Int} {ss : List (List Int)} {k : Nat} (h : goodk big xs ss (k + 1)) : xs.length ≤ 512 ∧ (∀ j, j < xs.length → 0 ≤ (arrk xs ss (k + 1)).getD j 0) ∧ srt (arrk xs ss (k + 1)) xs.length := by
  have e := h k (by omega)
  obtain ⟨h1, h2, h3, h4⟩ := chk_zero e
  rw [arrk_len] at h2 h3
  have hl : (0 : Int) ≤ latk big k := by
    cases k with
    | zero => show (0 : Int) ≤ 1125899906842624; decide
    | succ k => show (0 : Int) ≤ big; decide
  refine ⟨h2, fun j hj => ?_, fun j hj => ?_⟩
  · rw [arrk, deps_get _ _ _ _ (by rw [arrk_len]; exact hj)]
    exact (dl_bounds h3 hl (j + 1) hj).1
  · rw [arrk, deps_get _ _ _ _ (by rw [arrk_len]; omega), deps_get _ _ _ _ (by rw [arrk_len]; omega)]
    exact dl_mono h3 (j + 1) hj
theorem srt_last {l : List Int} {z lim : Int} (h : srt (l ++ [z]) (l.length + 1)) (hz : z ≤ lim) : ∀ j, j < l.length + 1 → (l ++ [z]).getD j 0 ≤ lim := by
  have key : ∀ d j, j + d = l.length → (l ++ [z]).getD j 0 ≤ lim := by
    intro d
    induction d with
    | zero =>
      intro j hj
      obtain rfl : j = l.length := by omega
      simpa [List.getD] using hz
    | succ d ih =>
      intro j hj
      have := ih (j + 1) (by omega)
      have := h j (by omega)
      omega
  intro j hj
  exact key (l.length - j) j (by omega)

/-- The law: a chain of two parts. -/
theorem parts_law {xs ps1 : List Int} {ss : List (List Int)} {q : Nat} (hq : q ≤ ss.length) (h : chE xs ss = 0) (h1 : chE xs (ss.take q) = 0) (hp : chV xs (ss.take q) = ps1)
    (hl : ps1 = [] ∨ ∃ l z, ps1 = l ++ [z] ∧ z ≤ 1125899906842624) : chE ps1 (ss.drop q) = 0 ∧ chV ps1 (ss.drop q) = chV xs ss := by
  have hm := chE_len h
  have hG := chE_good h
  have ht : (ss.take q).length = q := by simp; omega
  have hd : (ss.drop q).length = ss.length - q := by simp
  have hps : ps1 = arrk xs ss q := by rw [← hp]; unfold chV; rw [if_pos h1, ht]; exact arrk_take xs ss q hq q (Nat.le_refl _)
  have hb : 0 < q → ∀ j, j < ps1.length → ps1.getD j 0 ≤ 1125899906842624 := by
    intro hq0
    rcases hl with h | ⟨l, z, hlz, hz⟩
    · rw [h]; intro j hj; simp at hj
    · obtain ⟨k, rfl⟩ : ∃ k, q = k + 1 := ⟨q - 1, by omega⟩
      have hg := arrk_good (k := k) (fun j hj => hG j (by omega))
      rw [← hps] at hg
      have hlen : xs.length = l.length + 1 := by rw [← arrk_len xs ss (k + 1), ← hps, hlz]; simp
      rw [hlen, hlz] at hg
      intro j hj
      rw [hlz] at hj ⊢
      exact srt_last hg.2.2 hz j (by simpa using hj)
  have hv : chE ps1 (ss.drop q) = 0 → chV ps1 (ss.drop q) = chV xs ss := by
    intro he
    unfold chV
    rw [if_pos he, if_pos h, hd, hps, arrk_drop]
    congr 1
    omega
  suffices he : chE ps1 (ss.drop q) = 0 from ⟨he, hv he⟩
  by_cases hq0 : q = 0
  · subst hq0
    have : ps1 = xs := hps
    rw [this, List.drop_zero]
    exact h
  by_cases hqm : q = ss.length
  · have hlen : ps1.length = xs.length := by rw [hps, arrk_len]
    obtain ⟨k, hk⟩ : ∃ k, q = k + 1 := ⟨q - 1, by omega⟩
    have hg := arrk_good (k := k) (fun j hj => hG j (by omega))
    rw [← hk, ← hps, ← hlen] at hg
    have hd0 : (ss.drop q).length = 0 := by omega
    unfold chE
    rw [if_neg (by omega), if_pos hd0]
    refine chk_ok (by simp [zs]) (by omega) (fun j hj => ?_) hg.2.2
    rw [zs_get]
    exact ⟨hg.2.1 j hj, hb (by omega) j hj, by decide, by decide⟩
  · refine chE_of_good (by omega) (by omega) (fun j hj => ?_)
    have e := hG (q + j) (by omega)
    have eg : (ss.drop q).getD j [] = ss.getD (q + j) [] := by simp [List.getD]
    unfold errk at e ⊢
    rw [hps, arrk_drop, eg]
    rcases Nat.eq_zero_or_pos j with rfl | hj0
    · rw [← e]
      refine chk_lim (fun i hi => ?_)
      have h2 := hb (by omega) i (by rw [hps]; simpa using hi)
      rw [hps] at h2
      refine ⟨h2, ?_⟩
      obtain ⟨k, hk⟩ : ∃ k, q = k + 1 := ⟨q - 1, by omega⟩
      rw [hk] at h2 ⊢
      exact Int.le_trans h2 (show (1125899906842624 : Int) ≤ big by decide)
    · rw [← e]
      obtain ⟨i, rfl⟩ : ∃ i, j = i + 1 := ⟨j - 1, by omega⟩
      rfl
end Go.Proofs.Ytdfikembgljpkaa
