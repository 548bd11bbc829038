/- Abs and Sqrt of the reference. -/
import Derived.Test.YthpakpljfgmkfaaW48
namespace Go.Proofs.Ythpakpljfgmkfaa
open Go.RowKit

theorem abs_t (x : Int) (m : Nat) (w : World) (hx : x = (m : Int) ∨ x = -(m : Int)) (hm : m ≤ 9223372036854775807) :
    Calls Try.prog 46 #[.int .i64 x] w fun e w' => e = .returned (.tuple #[.int .i64 (m : Int), .bool true]) ∧ w = w' := by
  have h1 := fun w => size_t x m w hx hm
  have h6 := fun w => signed_t 0 m w (by omega)
  rw [if_pos (by omega)] at h6
  simp only [show ((0 : Nat) : Int) = 0 from rfl] at h6
  have H1 := Lib.hid h1
  have H6 := Lib.hid h6
  clear h1 h6 hx hm
  go_enter Try.func46, Try.ntmps46
  go_wp2_with (first
    | (go_at_call 55; (with_reducible refine (H1.out _).mono ?_); rintro e x1 ⟨rfl, rfl⟩)
    | (go_at_call 54; (with_reducible refine (H6.out _).mono ?_); rintro e x1 ⟨rfl, rfl⟩))
  go_ret2
  exact ⟨rfl, rfl⟩
set_option maxRecDepth 20000 in
set_option maxHeartbeats 8000000 in
theorem sqrt_t (x : Nat) (w : World) (hx : x ≤ 4611686018427387904) :
    Calls Try.prog 47 #[.int .i64 (x : Int)] w fun e w' => ∃ r : Nat, e = .returned (.tuple #[.int .i64 (r : Int), .bool true]) ∧ IsRoot x r ∧ w = w' := by
  have hx0 : ¬ (x : Int) < 0 := by omega
  have hs : x < (0 + 2 ^ 32) * (0 + 2 ^ 32) := by omega
  go_enter Try.func47, Try.ntmps47
  go_wp2
  go_loopw [4, 5, 6, 7] (fun ro bi _ _ wr => ∃ r b j : Nat, j ≤ 32 ∧ ro = .int .i64 (r : Int) ∧ bi = .int .i64 (b : Int) ∧ b = 2 ^ j / 2 ∧ Hid (r * r ≤ x ∧ r + 2 ^ j ≤ 4294967296) ∧ Hid (x < (r + 2 ^ j) * (r + 2 ^ j)) ∧ w = wr) (fun _ bi _ _ _ => (intOf bi).toNat)
  case atStart => exact ⟨0, 2147483648, 32, Nat.le_refl _, rfl, rfl, rfl, ⟨Nat.zero_le _, by omega⟩, hs, rfl⟩
  case round =>
    clear hs
    obtain ⟨r, b, j, hj, rfl, rfl, hb, HB, HU, rfl⟩ := hrel
    by_cases h0 : j = 0
    · subst h0
      obtain rfl : b = 0 := by omega
      have hr : IsRoot x r := by
        obtain ⟨h1, _⟩ := HB.out
        have h2 := HU.out
        rw [Nat.pow_zero] at h2
        refine ⟨h1, fun _ => h2, ?_⟩
        rcases Nat.lt_or_ge 2147483648 r with h | h
        · have h3 : 2147483649 * 2147483649 ≤ r * r := Nat.mul_le_mul h h
          omega
        · exact h
      have HR := Lib.hid hr
      clear hr HB HU hj hb
      go_wp2
      go_ret2
      exact ⟨r, rfl, HR.out, rfl⟩
    · obtain ⟨i, rfl⟩ : ∃ i, j = i + 1 := ⟨j - 1, by omega⟩
      have e1 : (2 : Nat) ^ (i + 1) = 2 * 2 ^ i := by rw [Nat.pow_succ, Nat.mul_comm]
      have hbi : b = 2 ^ i := by omega
      have hb0 : 0 < b := by rw [hbi]; exact Nat.pow_pos (by decide)
      obtain ⟨c, hc⟩ : ∃ c, c = b / 2 := ⟨_, rfl⟩
      have HC : Hid (c = 2 ^ i / 2) := by unfold Hid; rw [← hbi]; exact hc
      obtain ⟨h1, h2⟩ := HB.out
      have h3 := HU.out
      rw [e1, ← hbi] at h2 h3
      obtain ⟨s, hs⟩ : ∃ s, s = r + b := ⟨_, rfl⟩
      have t1 : IntKind.i64.wrap ((r : Int) + (b : Int)) = (s : Int) := by rw [IntWalk.i64_in _ (by omega)]; omega
      have t2 : ((b : Int)).tdiv 2 = (c : Int) := by rw [hc]; rfl
      have t3 : IntKind.i64.wrap (c : Int) = (c : Int) := IntWalk.i64_in _ (by omega)
      have t4 : wrap64 ((b : Int) / 2) = (c : Int) := by rw [show (b : Int) / 2 = (c : Int) by omega]; exact IntWalk.wrap64_in _ (by omega)
      have hm := fun w => mul_t (s : Int) s w (.inl rfl) (by omega)
      have g0 : (0 : Int) < (b : Int) := by omega
      have e2 : r + 2 * b = s + b := by omega
      rw [e2] at h3
      by_cases hf : s * s ≤ 9223372036854775807
      · rw [if_pos hf] at hm
        obtain ⟨S, hS⟩ : ∃ S, S = s * s := ⟨_, rfl⟩
        rw [← hS] at hm
        have HM := Lib.hid hm
        by_cases hle : S ≤ x
        · have HB2 : Hid (s * s ≤ x ∧ s + 2 ^ i ≤ 4294967296) := by unfold Hid; rw [← hbi, ← hS]; exact ⟨hle, by omega⟩
          have HU2 : Hid (x < (s + 2 ^ i) * (s + 2 ^ i)) := by unfold Hid; rw [← hbi]; exact h3
          have g1 : (S : Int) ≤ (x : Int) := by omega
          clear HB HU hb e1 hbi h1 h2 h3 hs hf hS hm hle hx e2
          go_wp2_with (first | (go_at_call 51; (with_reducible refine (HM.out _).mono ?_); rintro e y ⟨rfl, rfl⟩))
          go_roundw
          case rel => exact ⟨s, c, i, by omega, rfl, by rw [t4], HC.out, HB2, HU2, by trivial⟩
          case measure => rw [t4]; simp [intOf]; omega
        · have HB2 : Hid (r * r ≤ x ∧ r + 2 ^ i ≤ 4294967296) := by unfold Hid; rw [← hbi]; exact ⟨h1, by omega⟩
          have HU2 : Hid (x < (r + 2 ^ i) * (r + 2 ^ i)) := by unfold Hid; rw [← hbi, ← hs, ← hS]; omega
          have g1 : ¬ (S : Int) ≤ (x : Int) := by omega
          clear HB HU hb e1 hbi h1 h2 h3 hs hf hS hm hle hx e2
          go_wp2_with (first | (go_at_call 51; (with_reducible refine (HM.out _).mono ?_); rintro e y ⟨rfl, rfl⟩))
          go_roundw
          case rel => exact ⟨r, c, i, by omega, rfl, by rw [t4], HC.out, HB2, HU2, by trivial⟩
          case measure => rw [t4]; simp [intOf]; omega
      · rw [if_neg hf] at hm
        have HM := Lib.hid hm
        have HB2 : Hid (r * r ≤ x ∧ r + 2 ^ i ≤ 4294967296) := by unfold Hid; rw [← hbi]; exact ⟨h1, by omega⟩
        have HU2 : Hid (x < (r + 2 ^ i) * (r + 2 ^ i)) := by
          unfold Hid; rw [← hbi, ← hs]
          generalize s * s = S at hf
          omega
        clear HB HU hb e1 hbi h1 h2 h3 hs hf hm hx e2
        go_wp2_with (first | (go_at_call 51; (with_reducible refine (HM.out _).mono ?_); rintro e y ⟨rfl, rfl⟩))
        go_roundw
        case rel => exact ⟨r, c, i, by omega, rfl, by rw [t4], HC.out, HB2, HU2, by trivial⟩
        case measure => rw [t4]; simp [intOf]; omega
end Go.Proofs.Ythpakpljfgmkfaa
