/- Divide of the reference: bit by bit. -/
import Derived.Test.YthpakpljfgmkfaaW44
import Derived.Laws.Bits64b
namespace Go.Proofs.Ythpakpljfgmkfaa
open Go.RowKit Go.Lib

theorem or_low (y b : Nat) (h : b ≤ 1) : 2 * y ||| b = 2 * y + b := (Nat.two_pow_add_eq_or_of_lt (i := 1) (by omega) y).symm
/-- After k of 128 rounds: of A the top k bits, divided by c, give q and r; the register holds the other bits, on top. -/
def DV (A c k n q r : Nat) : Prop := q * c + r ≤ A ∧ r < c ∧ ∃ S, S < 2 ^ (128 - k) ∧ n = S * 2 ^ k ∧ A = (q * c + r) * 2 ^ (128 - k) + S
theorem dv_zero {A c : Nat} (hA : A < 2 ^ 128) (hc : 0 < c) : DV A c 0 A 0 0 :=
  ⟨by omega, hc, A, hA, by omega, by omega⟩
theorem dv_reg {A c k n q r : Nat} (h : DV A c k n q r) (hk : k ≤ 128) : n < 340282366920938463463374607431768211456 := by
  obtain ⟨_, _, S, hS, hn, _⟩ := h
  have e : (2 : Nat) ^ (128 - k) * 2 ^ k = 2 ^ 128 := by rw [← Nat.pow_add]; congr 1; omega
  have h2 : S * 2 ^ k < 2 ^ (128 - k) * 2 ^ k := Nat.mul_lt_mul_of_pos_right hS (Nat.pow_pos (by decide))
  rw [e] at h2
  omega
theorem dv_step {A c k n q r : Nat} (h : DV A c k n q r) (hk : k < 128) :
    (2 * r + n / 170141183460469231731687303715884105728 < c → DV A c (k + 1) (2 * n % 340282366920938463463374607431768211456) (2 * q) (2 * r + n / 170141183460469231731687303715884105728)) ∧
    (c ≤ 2 * r + n / 170141183460469231731687303715884105728 → DV A c (k + 1) (2 * n % 340282366920938463463374607431768211456) (2 * q + 1) (2 * r + n / 170141183460469231731687303715884105728 - c)) := by
  obtain ⟨h1, h2, S, hS, hn, hA⟩ := h
  obtain ⟨E, hE⟩ : ∃ E, E = (2 : Nat) ^ (128 - (k + 1)) := ⟨_, rfl⟩
  obtain ⟨P, hP⟩ : ∃ P, P = (2 : Nat) ^ k := ⟨_, rfl⟩
  have hEP : P * E = 170141183460469231731687303715884105728 := by
    rw [hE, hP, ← Nat.pow_add, show k + (128 - (k + 1)) = 127 by omega]
  have hE0 : 0 < E := by rw [hE]; exact Nat.pow_pos (by decide)
  have hP0 : 0 < P := by rw [hP]; exact Nat.pow_pos (by decide)
  have h2E : (2 : Nat) ^ (128 - k) = 2 * E := by rw [hE, ← Nat.pow_succ', show (128 - (k + 1)).succ = 128 - k by omega]
  have h2P : (2 : Nat) ^ (k + 1) = 2 * P := by rw [hP, ← Nat.pow_succ']
  rw [h2E] at hS hA
  rw [← hP] at hn
  have hb : n / 170141183460469231731687303715884105728 = S / E := by
    rw [hn, ← hEP, Nat.mul_comm S P, Nat.mul_div_mul_left _ _ hP0]
  have hr : 2 * n % 340282366920938463463374607431768211456 = S % E * (2 * P) := by
    rw [hn, show (340282366920938463463374607431768211456 : Nat) = (2 * P) * E by rw [Nat.mul_assoc, hEP], ← Nat.mul_assoc, Nat.mul_comm (2 * S) P, ← Nat.mul_assoc, Nat.mul_comm P 2, Nat.mul_mod_mul_left, Nat.mul_comm]
  rw [hb, hr]
  have hSd := Nat.div_add_mod S E
  have hSl := Nat.mod_lt S hE0
  obtain ⟨b, hbb⟩ : ∃ b, b = S / E := ⟨_, rfl⟩
  obtain ⟨T, hT⟩ : ∃ T, T = S % E := ⟨_, rfl⟩
  rw [← hbb, ← hT] at hSd
  rw [← hT] at hSl
  rw [← hbb, ← hT]
  have hA2 : A = (2 * (q * c + r) + b) * E + T := by
    rw [hA, ← hSd, Nat.add_mul (2 * (q * c + r)) b E, Nat.mul_comm E b, ← Nat.mul_assoc, Nat.mul_comm (q * c + r) 2]
    omega
  have hle : 2 * (q * c + r) + b ≤ A := by
    have := Nat.le_mul_of_pos_right (2 * (q * c + r) + b) hE0
    omega
  have hm : 2 * q * c = 2 * (q * c) := Nat.mul_assoc _ _ _
  have hm2 : (2 * q + 1) * c = 2 * (q * c) + c := by rw [Nat.add_mul, hm, Nat.one_mul]
  refine ⟨fun hlt => ⟨by omega, hlt, T, ?_, ?_, ?_⟩, fun hge => ⟨by omega, ?_, T, ?_, ?_, ?_⟩⟩
  · rw [← hE]; exact hSl
  · rw [h2P]
  · rw [← hE, hm, hA2]
    congr 2; omega
  · have : b < 2 := by rw [hbb]; exact Nat.div_lt_of_lt_mul (by omega)
    omega
  · rw [← hE]; exact hSl
  · rw [h2P]
  · rw [← hE, hm2, hA2]
    congr 2; omega
theorem dv_end {A c n q r : Nat} (h : DV A c 128 n q r) : q = A / c ∧ r = A % c := by
  obtain ⟨_, h2, S, hS, _, hA⟩ := h
  rw [show 128 - 128 = 0 from rfl, Nat.pow_zero] at hS hA
  have hA2 : A = r + c * q := by rw [Nat.mul_comm]; omega
  rw [hA2, Nat.add_mul_div_left _ _ (by omega), Nat.add_mul_mod_self_left, Nat.div_eq_of_lt h2, Nat.mod_eq_of_lt h2]
  omega
theorem dv_q {A c k n q r : Nat} (h : DV A c k n q r) : q ≤ A := by
  obtain ⟨h1, h2, _⟩ := h
  have := Nat.le_mul_of_pos_right q (show 0 < c by omega)
  omega
end Go.Proofs.Ythpakpljfgmkfaa
