/- Chain: what it returns, in plain terms; the limit of the later hops does not matter. -/
import Derived.Test.YtdfikembgljpkaaW26
namespace Go.Proofs.Ytdfikembgljpkaa
open Go.RowKit

theorem chk_lim {xs ys : List Int} {lim lim' : Int} (h : ∀ j, j < xs.length → xs.getD j 0 ≤ lim ∧ xs.getD j 0 ≤ lim') : chk xs ys lim = chk xs ys lim' := by
  have e : oks xs ys lim xs.length ↔ oks xs ys lim' xs.length := ⟨fun k => oks_cut k (fun j hj => (h j hj).2), fun k => oks_cut k (fun j hj => (h j hj).1)⟩
  by_cases h1 : xs.length = ys.length
  · by_cases h2 : 512 < xs.length
    · rw [chk_long h1 h2, chk_long h1 h2]
    · by_cases h3 : oks xs ys lim xs.length
      · have h4 := e.1 h3
        unfold chk
        rw [if_neg (not_not_intro h1), if_neg h2, if_neg (not_not_intro h3), if_neg (not_not_intro h4), if_neg (not_not_intro h1), if_neg h2]
      · have h4 := fun c => h3 (e.2 c)
        unfold chk
        rw [if_neg (not_not_intro h1), if_neg h2, if_pos h3, if_neg (not_not_intro h1), if_neg h2, if_pos h4]
  · rw [chk_arg h1, chk_arg h1]
theorem errk_lim {b1 b2 : Int} {xs : List Int} {ss : List (List Int)} {k : Nat} (h1 : goodk b1 xs ss k) (hk : k ≤ 16) (hb1 : limk 16 ≤ b1) (hb2 : limk 16 ≤ b2) : errk b1 xs ss k = errk b2 xs ss k := by
  rcases Nat.eq_zero_or_pos k with rfl | hp
  · rfl
  · have hb := arrk_bound h1 hp
    obtain ⟨j, rfl⟩ : ∃ j, k = j + 1 := ⟨k - 1, by omega⟩
    refine chk_lim (fun i hi => ?_)
    rw [arrk_len] at hi
    have := hb i hi
    unfold limk at this hb1 hb2
    show _ ≤ b1 ∧ _ ≤ b2
    omega
theorem goodk_lim {b1 b2 : Int} {xs : List Int} {ss : List (List Int)} {k : Nat} (h1 : goodk b1 xs ss k) (hk : k ≤ 16) (hb1 : limk 16 ≤ b1) (hb2 : limk 16 ≤ b2) : goodk b2 xs ss k := fun j hj => by
  rw [← errk_lim (k := j) (fun i hi => h1 i (by omega)) (by omega) hb1 hb2]
  exact h1 j hj
theorem ferr_zero {b : Int} {xs : List Int} {ss : List (List Int)} : ∀ k, ferr b xs ss k = 0 → goodk b xs ss k
  | 0, _ => fun _ h => by omega
  | k + 1, h => by
    unfold ferr at h
    by_cases h0 : ferr b xs ss k = 0
    · rw [if_neg (fun c => c h0)] at h
      exact goodk_succ (ferr_zero k h0) h
    · rw [if_pos h0] at h
      exact absurd h h0
theorem ferr_lim {b1 b2 : Int} {xs : List Int} {ss : List (List Int)} (hb1 : limk 16 ≤ b1) (hb2 : limk 16 ≤ b2) : ∀ k, k ≤ 16 → ferr b1 xs ss k = ferr b2 xs ss k
  | 0, _ => rfl
  | k + 1, hk => by
    have ih := ferr_lim (xs := xs) (ss := ss) hb1 hb2 k (by omega)
    unfold ferr
    rw [ih]
    by_cases h0 : ferr b2 xs ss k = 0
    · rw [if_neg (fun c => c h0), if_neg (fun c => c h0)]
      rw [← ih] at h0
      exact errk_lim (ferr_zero k h0) (by omega) hb1 hb2
    · rw [if_pos h0, if_pos h0]

theorem zs_get (n j : Nat) : (zs n).getD j 0 = 0 := by
  unfold zs
  rw [List.getD_eq_getElem?_getD]
  by_cases h : j < n
  · simp [h]
  · simp [h]
theorem dl_zs {xs : List Int} {n : Nat} (h0 : ∀ j, j < xs.length → 0 ≤ xs.getD j 0) (h : srt xs xs.length) : ∀ k, k < xs.length → dl xs (zs n) (k + 1) = xs.getD k 0
  | 0, hk => by
    have := h0 0 hk
    show mx (xs.getD 0 0) 0 + (zs n).getD 0 0 = _
    rw [zs_get]; unfold mx
    rw [if_neg (by omega)]; omega
  | k + 1, hk => by
    have ih := dl_zs (n := n) h0 h k (by omega)
    have hs := h k hk
    show mx (xs.getD (k + 1) 0) (dl xs (zs n) (k + 1)) + (zs n).getD (k + 1) 0 = _
    rw [ih, zs_get]; unfold mx
    rw [if_neg (by omega)]; omega
theorem deps_zs {xs : List Int} {lim : Int} {n : Nat} (h : chk xs (zs n) lim = 0) : deps xs (zs n) xs.length = xs := by
  obtain ⟨h1, h2, h3, h4⟩ := chk_zero h
  apply List.ext_getElem (deps_len _ _ _)
  intro j h5 h6
  have hd := dl_zs (n := n) (fun i hi => (h3 i hi).1) h4 j h6
  have hg := deps_get xs (zs n) xs.length j h6
  rw [hd] at hg
  simpa [List.getD, List.getElem?_eq_getElem h5, List.getElem?_eq_getElem h6] using hg

/-- The error of Chain. -/
noncomputable def chE (xs : List Int) (ss : List (List Int)) : Int :=
  if 16 < ss.length then 6 else if ss.length = 0 then chk xs (zs xs.length) 1125899906842624 else ferr big xs ss ss.length
/-- The list of Chain. -/
noncomputable def chV (xs : List Int) (ss : List (List Int)) : List Int := if chE xs ss = 0 then arrk xs ss ss.length else []
theorem chV_none {xs : List Int} (ss : List (List Int)) (h : ss.length = 0) : chV xs ss = pV xs (zs xs.length) := by
  have e : chE xs ss = chk xs (zs xs.length) 1125899906842624 := by unfold chE; rw [if_neg (by omega), if_pos h]
  unfold chV pV
  rw [e]
  split
  · rename_i hc
    rw [deps_zs hc, h]; rfl
  · rfl
end Go.Proofs.Ytdfikembgljpkaa
