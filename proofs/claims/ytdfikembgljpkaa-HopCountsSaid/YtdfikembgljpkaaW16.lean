/- The model of Chain. -/
import Derived.Test.YtdfikembgljpkaaW15
namespace Go.Proofs.Ytdfikembgljpkaa
open Go.RowKit

/-- A slice of n slices of ints that reads as ss, in memory below block B. -/
structure LS (w : World) (A : Option Addr) (n B : Nat) (ss : List (List Int)) : Prop where
  hn : n ≤ 17592186044416
  HN : ss.length = n
  hA : 0 < n → ∃ b o, A = some ⟨b, o, none⟩ ∧ b < B ∧ ∀ j, j < n → ∃ Aj cj, w.cell? ⟨b, o + j, none⟩ = some (.slice Aj (ss.getD j []).length cj) ∧ LI w Aj (ss.getD j []).length B (ss.getD j [])
  hB : B ≤ w.heap.size
theorem LS.frm {w w' : World} {A : Option Addr} {n B : Nat} {ss : List (List Int)} (h : LS w A n B ss) (f : Frm w w' NoB) : LS w' A n B ss :=
  ⟨h.hn, h.HN, fun hp => by
    obtain ⟨b, o, e, hb, hc⟩ := h.hA hp
    have hlt := Nat.lt_of_lt_of_le hb h.hB
    refine ⟨b, o, e, hb, fun j hj => ?_⟩
    obtain ⟨Aj, cj, h1, h2⟩ := hc j hj
    exact ⟨Aj, cj, (f.cell (p := ⟨b, o + j, none⟩) hlt (fun e => e)).trans h1, h2.frm f⟩, Nat.le_trans h.hB f.size⟩

/-- The arrivals at hop k of a chain. -/
def arrk (xs : List Int) (ss : List (List Int)) : Nat → List Int
  | 0 => xs
  | k + 1 => deps (arrk xs ss k) (ss.getD k []) (arrk xs ss k).length
theorem arrk_len (xs : List Int) (ss : List (List Int)) : ∀ k, (arrk xs ss k).length = xs.length
  | 0 => rfl
  | k + 1 => by rw [arrk, deps_len]; exact arrk_len xs ss k
/-- The latest arrival that hop k asks. -/
def latk (big : Int) : Nat → Int
  | 0 => 1125899906842624
  | _ + 1 => big
/-- The error of hop k. -/
noncomputable def errk (big : Int) (xs : List Int) (ss : List (List Int)) (k : Nat) : Int := chk (arrk xs ss k) (ss.getD k []) (latk big k)
/-- All hops before k are without an error. -/
def goodk (big : Int) (xs : List Int) (ss : List (List Int)) (k : Nat) : Prop := ∀ j, j < k → errk big xs ss j = 0
/-- The bound on the arrivals at hop k. -/
def limk (k : Nat) : Int := 1125899906842624 + 5120000000000 * k
theorem deps_get (xs ys : List Int) (n j : Nat) (h : j < n) : (deps xs ys n).getD j 0 = dl xs ys (j + 1) := by
  simp [deps, List.getD, List.getElem?_range h]
theorem oks_cut {xs ys : List Int} {lim lim' : Int} {n : Nat} (h : oks xs ys lim n) (hb : ∀ j, j < n → xs.getD j 0 ≤ lim') : oks xs ys lim' n := fun j hj => by
  obtain ⟨a, _, c, d⟩ := h j hj
  exact ⟨a, hb j hj, c, d⟩
/-- Arrivals at hop k are bounded. -/
theorem arrk_bound {big : Int} {xs : List Int} {ss : List (List Int)} {k : Nat} (h : goodk big xs ss k) (hk : 0 < k) : ∀ j, j < xs.length → (arrk xs ss k).getD j 0 ≤ limk k := by
  induction k with
  | zero => omega
  | succ k ih =>
    intro j hj
    have e := h k (by omega)
    obtain ⟨h1, h2, h3, h4⟩ := chk_zero e
    have hb : ∀ j, j < (arrk xs ss k).length → (arrk xs ss k).getD j 0 ≤ limk k := by
      intro i hi
      rcases Nat.eq_zero_or_pos k with rfl | hp
      · have := (h3 i hi).2.1
        simpa [latk, limk] using this
      · exact ih (fun j hj => h j (by omega)) hp i (by rw [arrk_len] at hi; exact hi)
    have ho := oks_cut h3 hb
    have hd := dl_bounds ho (by unfold limk; omega) (j + 1) (by rw [arrk_len]; omega)
    rw [arrk, deps_get _ _ _ _ (by rw [arrk_len]; exact hj)]
    rw [arrk_len] at h2
    unfold limk at hd ⊢
    omega
end Go.Proofs.Ytdfikembgljpkaa
