/- Floor of the reference. -/
import Derived.Test.YthpakpljfgmkfaaW46
namespace Go.Proofs.Ythpakpljfgmkfaa
open Go.RowKit Go.Lib

set_option maxRecDepth 20000 in
theorem signedN_t (lo : Nat) (w : World) (hl : lo < 4611686018427387904) :
    Calls Try.prog 54 #[.bool true, .int .u64 0, .int .u64 (lo : Int)] w fun e w' => e = .returned (.tuple #[.int .i64 (-(lo : Int)), .bool true]) ∧ w = w' := by
  have g2b : ¬ (9223372036854775808 : Int) < (lo : Int) := by omega
  have g3 : ((lo : Int) == 9223372036854775808) = false := beq_eq_false_iff_ne.2 (by omega)
  by_cases h0 : lo = 0
  · subst h0
    clear g2b g3 hl
    go_enter Try.func54, Try.ntmps54
    go_wp2
    go_ret2
    exact ⟨rfl, rfl⟩
  · obtain ⟨r, hr⟩ : ∃ r, r = lo - 1 := ⟨_, rfl⟩
    have g4 : ((lo : Int) == 0) = false := beq_eq_false_iff_ne.2 (by omega)
    have t1 : IntKind.u64.wrap ((lo : Int) - 1) = (r : Int) := by rw [IntKind.wrap_u64]; omega
    have t2 : IntKind.i64.wrap (r : Int) = (r : Int) := IntWalk.i64_in _ (by omega)
    have t3 : IntKind.i64.wrap (-(r : Int)) = -(r : Int) := IntWalk.i64_in _ (by omega)
    have t4 : IntKind.i64.wrap (-(r : Int) - 1) = -(lo : Int) := by rw [IntWalk.i64_in _ (by omega)]; omega
    clear hr hl
    go_enter Try.func54, Try.ntmps54
    go_wp2
    go_ret2
    exact ⟨rfl, rfl⟩
theorem fl_negN (A m : Nat) (hm : 0 < m) : (A % m = 0 → (-(A : Int)) / (m : Int) = -((A / m : Nat) : Int)) ∧ (0 < A % m → (-(A : Int)) / (m : Int) = -((A / m + 1 : Nat) : Int)) := by
  have h3 := Nat.div_add_mod A m
  have h4 : (A : Int) = (m : Int) * ((A / m : Nat) : Int) + ((A % m : Nat) : Int) := by
    rw [← Int.natCast_mul]; omega
  have hlt := Nat.mod_lt A hm
  obtain ⟨Q, hQ⟩ : ∃ Q, Q = A / m := ⟨_, rfl⟩
  obtain ⟨R, hR⟩ : ∃ R, R = A % m := ⟨_, rfl⟩
  rw [← hQ, ← hR] at h4 ⊢
  rw [← hR] at hlt
  refine ⟨fun h => ?_, fun h => ?_⟩
  · refine ((Int.ediv_emod_unique (show (0 : Int) < (m : Int) by omega)).2 ⟨?_, Int.le_refl 0, by omega⟩).1
    rw [Int.mul_neg]; omega
  · refine ((Int.ediv_emod_unique (r := (m : Int) - (R : Int)) (show (0 : Int) < (m : Int) by omega)).2 ⟨?_, by omega, by omega⟩).1
    rw [Int.mul_neg, Int.natCast_add, Int.mul_add]; omega
set_option maxRecDepth 20000 in
set_option maxHeartbeats 8000000 in
theorem muldiv_t (a : Int) (m : Nat) (w : World) (ha : -4503599627370496 ≤ a ∧ a ≤ 4503599627370496) (hm : 0 < m) (hm2 : m ≤ 1024) :
    Calls Try.prog 53 #[.int .i64 a, .int .i64 1, .int .i64 (m : Int)] w fun e w' => e = .returned (.tuple #[.int .i64 (a / (m : Int)), .bool true]) ∧ w = w' := by
  obtain ⟨A, hA⟩ : ∃ A, A = a.natAbs := ⟨_, rfl⟩
  have h1 := fun w => size_t a A w (by omega) (by omega)
  have h2 := fun w => size_t 1 1 w (.inl rfl) (by omega)
  have h3 := fun w => size_t (m : Int) m w (.inl rfl) (by omega)
  have h4 := fun w => product_t A 1 w (by omega) (by omega)
  have e4 : ((A * 1 / 18446744073709551616 : Nat) : Int) = 0 := by omega
  have e5 : ((A * 1 % 18446744073709551616 : Nat) : Int) = (A : Int) := by omega
  rw [e4, e5] at h4
  simp only [show ((1 : Nat) : Int) = 1 from rfl] at h2 h4
  have h5 := fun w => divide_t A m w (by omega) hm (by omega)
  have hQ1 : A / m ≤ A := Nat.div_le_self _ _
  obtain ⟨n1, n2⟩ := fl_negN A m hm
  have n3 : ((A : Int)) / (m : Int) = ((A / m : Nat) : Int) := rfl
  obtain ⟨Q, hQ⟩ : ∃ Q, Q = A / m := ⟨_, rfl⟩
  obtain ⟨R, hR⟩ : ∃ R, R = A % m := ⟨_, rfl⟩
  rw [← hQ, ← hR] at n1 n2
  rw [← hQ] at n3 hQ1
  rw [← hQ, ← hR] at h5
  have g1 : ((m : Int) == 0) = false := beq_eq_false_iff_ne.2 (by omega)
  have g2 : decide ((m : Int) < 0) = false := decide_eq_false (by omega)
  have g3 : ¬ m = 0 := by omega
  have H1 := Lib.hid h1
  have H2 := Lib.hid h2
  have H3 := Lib.hid h3
  have H4 := Lib.hid h4
  have H5 := Lib.hid h5
  clear h1 h2 h3 h4 h5 e4 e5 hQ hR
  by_cases h0 : a < 0
  · have ea : a = -(A : Int) := by omega
    have g4 : decide (a < 0) = true := decide_eq_true h0
    by_cases hR0 : 0 < R
    · have h6 := fun w => signedN_t (Q + 1) w (by omega)
      have hv : a / (m : Int) = -((Q + 1 : Nat) : Int) := by rw [ea]; exact n2 hR0
      rw [hv]
      obtain ⟨Q2, hQ2⟩ : ∃ x, x = Q + 1 := ⟨_, rfl⟩
      rw [← hQ2] at h6 ⊢
      have t1 : IntKind.u64.wrap ((Q : Int) + 1) = (Q2 : Int) := by rw [IntKind.wrap_u64]; omega
      have g5 : ((Q2 : Int) == 0) = false := beq_eq_false_iff_ne.2 (by omega)
      have g5b : ¬ Q2 = 0 := by omega
      have g6 : decide ((0 : Int) < (R : Int)) = true := decide_eq_true (by omega)
      have H6 := Lib.hid h6
      clear h6 hv n1 n2 n3 ea hA ha hQ1 hQ2 hm hm2
      go_enter Try.func53, Try.ntmps53
      go_wp2_with (first
        | (go_at_call 55; (with_reducible refine (H1.out _).mono ?_); rintro e x1 ⟨rfl, rfl⟩)
        | (go_at_call 55; (with_reducible refine (H2.out _).mono ?_); rintro e x1 ⟨rfl, rfl⟩)
        | (go_at_call 55; (with_reducible refine (H3.out _).mono ?_); rintro e x1 ⟨rfl, rfl⟩)
        | (go_at_call 56; (with_reducible refine (H4.out _).mono ?_); rintro e x1 ⟨rfl, rfl⟩)
        | (go_at_call 57; (with_reducible refine (H5.out _).mono ?_); rintro e x1 ⟨rfl, rfl⟩)
        | (go_at_call 54; (with_reducible refine (H6.out _).mono ?_); rintro e x1 ⟨rfl, rfl⟩))
      go_ret2
      exact ⟨rfl, rfl⟩
    · obtain rfl : R = 0 := by omega
      have h6 := fun w => signedN_t Q w (by omega)
      have hv : a / (m : Int) = -(Q : Int) := by rw [ea]; exact n1 rfl
      rw [hv]
      have H6 := Lib.hid h6
      clear h6 hv n1 n2 n3 ea hA ha hQ1 hm hm2 hR0
      go_enter Try.func53, Try.ntmps53
      go_wp2_with (first
        | (go_at_call 55; (with_reducible refine (H1.out _).mono ?_); rintro e x1 ⟨rfl, rfl⟩)
        | (go_at_call 55; (with_reducible refine (H2.out _).mono ?_); rintro e x1 ⟨rfl, rfl⟩)
        | (go_at_call 55; (with_reducible refine (H3.out _).mono ?_); rintro e x1 ⟨rfl, rfl⟩)
        | (go_at_call 56; (with_reducible refine (H4.out _).mono ?_); rintro e x1 ⟨rfl, rfl⟩)
        | (go_at_call 57; (with_reducible refine (H5.out _).mono ?_); rintro e x1 ⟨rfl, rfl⟩)
        | (go_at_call 54; (with_reducible refine (H6.out _).mono ?_); rintro e x1 ⟨rfl, rfl⟩))
      go_ret2
      exact ⟨rfl, rfl⟩
  · have ea : a = (A : Int) := by omega
    have g4 : decide (a < 0) = false := decide_eq_false h0
    have h6 := fun w => signed_t 0 Q w (by omega)
    simp only [show ((0 : Nat) : Int) = 0 from rfl] at h6
    rw [if_pos (by omega)] at h6
    have hv : a / (m : Int) = (Q : Int) := by rw [ea]; exact n3
    rw [hv]
    have H6 := Lib.hid h6
    clear h6 hv n1 n2 n3 ea hA ha hQ1 hm hm2
    go_enter Try.func53, Try.ntmps53
    go_wp2_with (first
      | (go_at_call 55; (with_reducible refine (H1.out _).mono ?_); rintro e x1 ⟨rfl, rfl⟩)
      | (go_at_call 55; (with_reducible refine (H2.out _).mono ?_); rintro e x1 ⟨rfl, rfl⟩)
      | (go_at_call 55; (with_reducible refine (H3.out _).mono ?_); rintro e x1 ⟨rfl, rfl⟩)
      | (go_at_call 56; (with_reducible refine (H4.out _).mono ?_); rintro e x1 ⟨rfl, rfl⟩)
      | (go_at_call 57; (with_reducible refine (H5.out _).mono ?_); rintro e x1 ⟨rfl, rfl⟩)
      | (go_at_call 54; (with_reducible refine (H6.out _).mono ?_); rintro e x1 ⟨rfl, rfl⟩))
    go_ret2
    exact ⟨rfl, rfl⟩
theorem rfloor_t (a : Int) (m : Nat) (w : World) (ha : -4503599627370496 ≤ a ∧ a ≤ 4503599627370496) (hm : 0 < m) (hm2 : m ≤ 1024) :
    Calls Try.prog 44 #[.int .i64 a, .int .i64 (m : Int)] w fun e w' => e = .returned (.tuple #[.int .i64 (a / (m : Int)), .bool true]) ∧ w = w' := by
  have h1 := fun w => muldiv_t a m w ha hm hm2
  obtain ⟨F, hF⟩ : ∃ F, F = a / (m : Int) := ⟨_, rfl⟩
  rw [← hF] at h1 ⊢
  have H1 := Lib.hid h1
  clear h1 hF ha hm hm2
  go_enter Try.func44, Try.ntmps44
  go_wp2_with (first | (go_at_call 53; (with_reducible refine (H1.out _).mono ?_); rintro e x1 ⟨rfl, rfl⟩))
  go_ret2
  exact ⟨rfl, rfl⟩
end Go.Proofs.Ythpakpljfgmkfaa
