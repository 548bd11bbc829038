/- StabilityOne, walked: all cases. -/
import Derived.Test.YthpakpljfgmkfaaW34
namespace Go.Proofs.Ythpakpljfgmkfaa
open Go.RowKit

theorem stabilityOne_walk (A : Option Addr) (n c B : Nat) (xs : List Int) (w : World) (hX : LX w A n B xs) (hc : n ≤ c) :
    Calls Try.prog 9 #[.slice A n c] w fun e w' => e = .returned (.bool true) ∧ Frm w w' NoB := by
  obtain ⟨N, hN⟩ : ∃ N, N = min n 1000 := ⟨_, rfl⟩
  have hxr : ∀ j, j < N → -2147483648 ≤ xs.getD j 0 ∧ xs.getD j 0 ≤ 2147483647 := fun j hj => by
    obtain ⟨_, _, _, _, h⟩ := hX.pos (by omega)
    exact (h j (by omega)).2
  have hck := lnL_chk (a := 0) (b := 0) (by omega : N ≤ 1000) hxr (by omega) (by omega)
  have hlen := lnL_len xs 0 0 N
  have hO := (chk_zero hck).2
  have hE := one_E (lnL xs 0 0 N)
  have hR := one_R (lnL xs 0 0 N)
  obtain ⟨L, hL⟩ : ∃ L, lnL xs 0 0 N = L := ⟨_, rfl⟩
  rw [hL] at hck hlen hE hR hO
  by_cases h3 : N < 3
  · obtain ⟨e1, e2⟩ := one_short hck (by omega)
    exact one_short_w hN hL hX hc h3 e1 e2 (hE.trans e1) (hR.trans e2)
  · have hf := flt_sqs L (L.length - 2)
    by_cases hs : sqs (a2 L 1) (L.length - 2) ≤ 9223372036854775807
    · obtain ⟨e1, e2⟩ := one_fine hck (by omega) hs
      obtain ⟨X, Y, r, hXb, hYb, hY0, hG, hz, hnz⟩ := low_terms (D := 2 * (L.length - 2)) (by omega) hs (by omega)
      rw [r] at e2
      by_cases h0 : sqs (a2 L 1) (L.length - 2) = 0
      · obtain ⟨rfl, rfl⟩ := hz h0
        rw [decide_eq_true h0] at hf
        exact one_flat_w (M := L.length - 2) hN hL hX hc (by unfold Hid; omega) (by omega) hlen hO hf e1 e2 (hE.trans e1) (hR.trans e2)
      · have hx := hnz h0
        rw [decide_eq_false h0] at hf
        exact one_fine_w (M := L.length - 2) hN hL hX hc (by unfold Hid; omega) (by omega) hlen hO hf X Y hXb hYb (by omega) hY0 hG e1 e2 (hE.trans e1) (hR.trans e2)
    · obtain ⟨e1, e2⟩ := one_over hck (by omega) hs
      rw [decide_eq_false (by omega)] at hf
      exact one_over_w (M := L.length - 2) hN hL hX hc (by unfold Hid; omega) (by omega) hlen hO hf e1 e2 (hE.trans e1) (hR.trans e2)
end Go.Proofs.Ythpakpljfgmkfaa
