/- floor; Detrend of the program. -/
import Derived.Test.YthpakpljfgmkfaaW11
import Derived.Deep.RegionHeld3
namespace Go.Proofs.Ythpakpljfgmkfaa
open Go.RowKit

theorem fl_pos {a m : Int} (ha : 0 ≤ a) (hm : 0 < m) : a.tdiv m = a / m ∧ ¬ a.tmod m < 0 := by
  rw [Int.tdiv_eq_ediv_of_nonneg ha, Int.tmod_eq_emod_of_nonneg ha]
  exact ⟨rfl, by have := Int.emod_nonneg a (show m ≠ 0 by omega); omega⟩
theorem fl_neg {a m : Int} (ha : a < 0) (hm : 0 < m) : (a.tmod m < 0 ∧ a / m = a.tdiv m - 1) ∨ (¬ a.tmod m < 0 ∧ a / m = a.tdiv m) := by
  obtain ⟨c, rfl⟩ : ∃ c, a = -c := ⟨-a, by omega⟩
  rw [Int.neg_tdiv, Int.neg_tmod, Int.tdiv_eq_ediv_of_nonneg (by omega), Int.tmod_eq_emod_of_nonneg (by omega)]
  have h1 := Int.emod_nonneg c (show m ≠ 0 by omega)
  have h2 := Int.emod_lt_of_pos c hm
  have h3 := Int.emod_add_mul_ediv c m
  by_cases h0 : c % m = 0
  · right
    refine ⟨by omega, ?_⟩
    refine ((Int.ediv_emod_unique hm).2 ⟨?_, Int.le_refl 0, hm⟩).1
    rw [Int.mul_neg]; omega
  · left
    refine ⟨by omega, ?_⟩
    refine ((Int.ediv_emod_unique (r := m - c % m) hm).2 ⟨?_, by omega, by omega⟩).1
    rw [Int.mul_sub, Int.mul_neg, Int.mul_one]; omega
set_option maxHeartbeats 4000000 in
theorem floor_t (a m : Int) (w : World) (ha : -4503599627370496 ≤ a ∧ a ≤ 4503599627370496) (hm : 0 < m) :
    Calls Try.prog 34 #[.int .i64 a, .int .i64 m] w fun e w' => e = .returned (.int .i64 (a / m)) ∧ w = w' := by
  have hb : -4503599627370496 ≤ a.tdiv m ∧ a.tdiv m ≤ 4503599627370496 := by
    have := Int.natAbs_tdiv_le_natAbs a m
    omega
  have hne : m ≠ 0 := by omega
  obtain ⟨Q, hQ⟩ : ∃ Q, Q = a.tdiv m := ⟨_, rfl⟩
  obtain ⟨R, hR⟩ : ∃ R, R = a.tmod m := ⟨_, rfl⟩
  obtain ⟨F, hF⟩ : ∃ F, F = a / m := ⟨_, rfl⟩
  have t0 : a.tdiv m = Q := hQ.symm
  have t0' : a.tmod m = R := hR.symm
  rw [t0] at hb
  have t1 : IntKind.i64.wrap Q = Q := IntWalk.i64_in _ (by omega)
  have t2 : IntKind.i64.wrap (Q - 1) = Q - 1 := IntWalk.i64_in _ (by omega)
  have hcase : (R < 0 ∧ F = Q - 1) ∨ (¬ R < 0 ∧ F = Q) := by
    rw [hR, hF, hQ]
    by_cases h : 0 ≤ a
    · obtain ⟨h1, h2⟩ := fl_pos h hm
      exact .inr ⟨h2, h1.symm⟩
    · exact fl_neg (by omega) hm
  have t3 : IntKind.i64.wrap R = R := IntWalk.i64_in _ (by
    have h1 := Int.natAbs_tdiv_le_natAbs a m
    have h2 : a.tmod m = a - m * a.tdiv m := Int.tmod_def a m
    have h3 := Int.natAbs_tmod a m
    have h4 : a.natAbs % m.natAbs ≤ a.natAbs := Nat.mod_le _ _
    omega)
  rw [← hF]
  clear hQ hR hF hb
  rcases hcase with ⟨h1, h2⟩ | ⟨h1, h2⟩
  · subst h2
    go_enter Try.func34, Try.ntmps34
    go_wp2
    go_ret
    exact ⟨rfl, rfl⟩
  · subst h2
    go_enter Try.func34, Try.ntmps34
    go_wp2
    go_ret
    exact ⟨rfl, rfl⟩
end Go.Proofs.Ythpakpljfgmkfaa
