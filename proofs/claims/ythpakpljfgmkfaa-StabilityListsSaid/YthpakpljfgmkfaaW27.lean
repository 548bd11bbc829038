/- The checked product and sum of the reference: Mul, Add; squares; rat. -/
import Derived.Test.YthpakpljfgmkfaaW26
namespace Go.Proofs.Ythpakpljfgmkfaa
open Go.RowKit

theorem signed_t (hi lo : Nat) (w : World) (hl : lo < 18446744073709551616) :
    Calls Try.prog 54 #[.bool false, .int .u64 (hi : Int), .int .u64 (lo : Int)] w fun e w' =>
      e = .returned (if 18446744073709551616 * hi + lo ≤ 9223372036854775807 then .tuple #[.int .i64 (lo : Int), .bool true] else .tuple #[.int .i64 0, .bool false]) ∧ w = w' := by
  by_cases h1 : 0 < hi
  · rw [if_neg (by omega)]
    have g1 : decide ((0 : Int) < (hi : Int)) = true := decide_eq_true (by omega)
    have g1b : decide (0 < hi) = true := decide_eq_true h1
    go_enter Try.func54, Try.ntmps54
    go_wp2
    go_ret2
    exact ⟨rfl, rfl⟩
  · obtain rfl : hi = 0 := by omega
    by_cases h2 : 9223372036854775808 < lo
    · rw [if_neg (by omega)]
      have g2 : decide ((9223372036854775808 : Int) < (lo : Int)) = true := decide_eq_true (by omega)
      have h2b : (9223372036854775808 : Int) < (lo : Int) := by omega
      go_enter Try.func54, Try.ntmps54
      go_wp2
      go_ret2
      exact ⟨rfl, rfl⟩
    · have g2 : decide ((9223372036854775808 : Int) < (lo : Int)) = false := decide_eq_false (by omega)
      have h2b : ¬ (9223372036854775808 : Int) < (lo : Int) := by omega
      by_cases h3 : lo = 9223372036854775808
      · rw [if_neg (by omega)]
        subst h3
        go_enter Try.func54, Try.ntmps54
        go_wp2
        go_ret2
        exact ⟨rfl, rfl⟩
      · rw [if_pos (by omega)]
        have g3 : ((lo : Int) == 9223372036854775808) = false := beq_eq_false_iff_ne.2 (by omega)
        have t1 : IntKind.i64.wrap (lo : Int) = (lo : Int) := IntWalk.i64_in _ (by omega)
        clear h3 h2
        go_enter Try.func54, Try.ntmps54
        go_wp2
        go_ret2
        exact ⟨rfl, rfl⟩
/-- What a checked product of a number with itself is. -/
theorem mul_t (x : Int) (m : Nat) (w : World) (hx : x = (m : Int) ∨ x = -(m : Int)) (hm : m ≤ 9223372036854775807) :
    Calls Try.prog 51 #[.int .i64 x, .int .i64 x] w fun e w' => e = .returned (if m * m ≤ 9223372036854775807 then .tuple #[.int .i64 ((m * m : Nat) : Int), .bool true] else .tuple #[.int .i64 0, .bool false]) ∧ w = w' := by
  have h1 := fun w => size_t x m w hx hm
  have h2 := fun w => product_t m m w (by omega) (by omega)
  obtain ⟨hi, hhi⟩ : ∃ hi, hi = m * m / 18446744073709551616 := ⟨_, rfl⟩
  obtain ⟨lo, hlo⟩ : ∃ lo, lo = m * m % 18446744073709551616 := ⟨_, rfl⟩
  have hs : 18446744073709551616 * hi + lo = m * m := by rw [hhi, hlo]; exact Nat.div_add_mod _ _
  have hlt : lo < 18446744073709551616 := by rw [hlo]; exact Nat.mod_lt _ (by decide)
  have h3 := fun w => signed_t hi lo w hlt
  rw [← hhi, ← hlo] at h2
  rw [hs] at h3
  have hv : (if m * m ≤ 9223372036854775807 then Value.tuple #[.int .i64 ((m * m : Nat) : Int), .bool true] else .tuple #[.int .i64 0, .bool false]) = (if m * m ≤ 9223372036854775807 then Value.tuple #[.int .i64 (lo : Int), .bool true] else .tuple #[.int .i64 0, .bool false]) := by
    split
    · have : lo = m * m := by omega
      rw [this]
    · rfl
  rw [hv]
  have hneg : ((decide (x < 0)) != (decide (x < 0))) = false := by simp
  have H1 := Lib.hid h1
  have H2 := Lib.hid h2
  by_cases hf : m * m ≤ 9223372036854775807
  · rw [if_pos hf] at h3 ⊢
    have H3 := Lib.hid h3
    clear h1 h2 h3 hs hlt hhi hlo hx hf hv
    go_enter Try.func51, Try.ntmps51
    go_wp2_with (first
      | (go_at_call 55; (with_reducible refine (H1.out _).mono ?_); rintro e x1 ⟨rfl, rfl⟩)
      | (go_at_call 56; (with_reducible refine (H2.out _).mono ?_); rintro e x1 ⟨rfl, rfl⟩)
      | (go_at_call 54; (with_reducible refine (H3.out _).mono ?_); rintro e x1 ⟨rfl, rfl⟩))
    go_ret2
    exact ⟨rfl, rfl⟩
  · rw [if_neg hf] at h3 ⊢
    have H3 := Lib.hid h3
    clear h1 h2 h3 hs hlt hhi hlo hx hf hv
    go_enter Try.func51, Try.ntmps51
    go_wp2_with (first
      | (go_at_call 55; (with_reducible refine (H1.out _).mono ?_); rintro e x1 ⟨rfl, rfl⟩)
      | (go_at_call 56; (with_reducible refine (H2.out _).mono ?_); rintro e x1 ⟨rfl, rfl⟩)
      | (go_at_call 54; (with_reducible refine (H3.out _).mono ?_); rintro e x1 ⟨rfl, rfl⟩))
    go_ret2
    exact ⟨rfl, rfl⟩
theorem add_t (a b : Nat) (w : World) (ha : a ≤ 9223372036854775807) (hb : b ≤ 9223372036854775807) :
    Calls Try.prog 52 #[.int .i64 (a : Int), .int .i64 (b : Int)] w fun e w' => e = .returned (if a + b ≤ 9223372036854775807 then .tuple #[.int .i64 ((a + b : Nat) : Int), .bool true] else .tuple #[.int .i64 0, .bool false]) ∧ w = w' := by
  have t1 : IntKind.i64.wrap (9223372036854775807 - (b : Int)) = 9223372036854775807 - (b : Int) := IntWalk.i64_in _ (by omega)
  have g0 : decide ((b : Int) < 0) = false := decide_eq_false (by omega)
  by_cases hf : a + b ≤ 9223372036854775807
  · rw [if_pos hf]
    have t2 : IntKind.i64.wrap ((a : Int) + (b : Int)) = ((a + b : Nat) : Int) := by rw [IntWalk.i64_in _ (by omega)]; omega
    obtain ⟨S, hS⟩ : ∃ S, S = a + b := ⟨_, rfl⟩
    rw [← hS] at t2 ⊢
    have g2 : decide (9223372036854775807 - (b : Int) < (a : Int)) = false := decide_eq_false (by omega)
    have g3 : ¬ (9223372036854775807 - (b : Int) < (a : Int)) := by omega
    by_cases hb0 : 0 < b
    · have g1 : decide ((0 : Int) < (b : Int)) = true := decide_eq_true (by omega)
      have g1b : decide (0 < b) = true := decide_eq_true hb0
      clear hS hf
      go_enter Try.func52, Try.ntmps52
      go_wp2
      go_ret2
      exact ⟨rfl, rfl⟩
    · obtain rfl : b = 0 := by omega
      have hSa : S = a := by omega
      subst hSa
      clear hS hf g2 g3 t1
      go_enter Try.func52, Try.ntmps52
      go_wp2
      go_ret2
      exact ⟨rfl, rfl⟩
  · rw [if_neg hf]
    have g2 : decide (9223372036854775807 - (b : Int) < (a : Int)) = true := decide_eq_true (by omega)
    have g3 : (9223372036854775807 - (b : Int) < (a : Int)) := by omega
    have hb0 : 0 < b := by omega
    have g1 : decide ((0 : Int) < (b : Int)) = true := decide_eq_true (by omega)
    have g1b : decide (0 < b) = true := decide_eq_true hb0
    clear hf
    go_enter Try.func52, Try.ntmps52
    go_wp2
    go_ret2
    exact ⟨rfl, rfl⟩
end Go.Proofs.Ythpakpljfgmkfaa
