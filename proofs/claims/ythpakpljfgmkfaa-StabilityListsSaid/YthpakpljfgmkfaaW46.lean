/- Divide of the reference, walked. -/
import Derived.Test.YthpakpljfgmkfaaW45
import Derived.OwnWalk
namespace Go.Proofs.Ythpakpljfgmkfaa
open Go.RowKit Go.Lib

theorem or_zero : bits .or .u64 0 0 = 0 := by kernel_rfl
set_option maxHeartbeats 8000000 in
set_option maxRecDepth 20000 in
theorem divide_t (A c : Nat) (w : World) (hA : A < 4611686018427387904) (hc : 0 < c) (hc2 : c < 4611686018427387904) :
    Calls Try.prog 57 #[.int .u64 0, .int .u64 (A : Int), .int .u64 (c : Int)] w fun e w' => e = .returned (.tuple #[.int .u64 0, .int .u64 ((A / c : Nat) : Int), .int .u64 ((A % c : Nat) : Int)]) ∧ w = w' := by
  have h0 := dv_zero (A := A) (c := c) (by omega) hc
  have e0 : ((A / 18446744073709551616 : Nat) : Int) = 0 := by omega
  have e1 : ((A % 18446744073709551616 : Nat) : Int) = (A : Int) := by omega
  have HA := Lib.hid hA
  have oz := or_zero
  go_enter Try.func57, Try.ntmps57
  go_wp2
  go_loopw [0, 1, 9, 10, 11, 12, 13] (fun hi lo q1 q0 rr i _ wr => ∃ k n q r : Nat, k ≤ 128 ∧ hi = .int .u64 ((n / 18446744073709551616 : Nat) : Int) ∧ lo = .int .u64 ((n % 18446744073709551616 : Nat) : Int) ∧ q1 = .int .u64 0 ∧ q0 = .int .u64 (q : Int) ∧ rr = .int .u64 (r : Int) ∧ i = .int .i64 k ∧ Hid (DV A c k n q r) ∧ w = wr) (fun _ _ _ _ _ i _ _ => 128 - (intOf i).toNat)
  case atStart => exact ⟨0, A, 0, 0, Nat.zero_le _, by rw [e0], by rw [e1], rfl, rfl, rfl, rfl, h0, rfl⟩
  case round =>
    clear h0 e0 e1
    obtain ⟨k, n, q, r, hk, rfl, rfl, rfl, rfl, rfl, rfl, HD, rfl⟩ := hrel
    by_cases hlt : k < 128
    · obtain ⟨d1, d2⟩ := dv_step HD.out hlt
      have hn := dv_reg HD.out hk
      have hq := dv_q HD.out
      have hr : r < c := HD.out.2.1
      have hAA := HA.out
      obtain ⟨h, hh⟩ : ∃ h, h = n / 18446744073709551616 := ⟨_, rfl⟩
      obtain ⟨l, hl⟩ : ∃ h, h = n % 18446744073709551616 := ⟨_, rfl⟩
      obtain ⟨b, hb⟩ : ∃ b, b = n / 170141183460469231731687303715884105728 := ⟨_, rfl⟩
      obtain ⟨m, hm⟩ : ∃ b, b = 2 * n % 340282366920938463463374607431768211456 := ⟨_, rfl⟩
      rw [← hb, ← hm] at d1 d2
      rw [← hh, ← hl]
      obtain ⟨lb, hlb⟩ : ∃ b, b = l / 9223372036854775808 := ⟨_, rfl⟩
      obtain ⟨hx, hhx⟩ : ∃ b, b = h % 9223372036854775808 := ⟨_, rfl⟩
      obtain ⟨H2, hH2⟩ : ∃ b, b = 2 * hx := ⟨_, rfl⟩
      obtain ⟨L2, hL2⟩ : ∃ b, b = 2 * l % 18446744073709551616 := ⟨_, rfl⟩
      obtain ⟨h2, hh2⟩ : ∃ b, b = H2 + lb := ⟨_, rfl⟩
      obtain ⟨r2, hr2⟩ : ∃ b, b = 2 * r := ⟨_, rfl⟩
      obtain ⟨R, hR⟩ : ∃ x, x = r2 + b := ⟨_, rfl⟩
      obtain ⟨q2, hq2⟩ : ∃ b, b = 2 * q := ⟨_, rfl⟩
      have hb2 : b = h / 9223372036854775808 := by omega
      have hb3 : b ≤ 1 := by omega
      have hlb1 : lb ≤ 1 := by omega
      have s1 : (r : Int) / 9223372036854775808 = 0 := by omega
      have s2 : IntKind.u64.wrap ((r : Int) * 2) = (r2 : Int) := by rw [IntKind.wrap_u64]; omega
      have s3 : (h : Int) / 9223372036854775808 = (b : Int) := by omega
      have s4 : bits .or .u64 (r2 : Int) (b : Int) = (R : Int) := by rw [bits_or_u64_nat _ _ (by omega) (by omega), hr2, or_low _ _ hb3, hR, hr2]
      have s5 : IntKind.u64.wrap ((h : Int) * 2) = (H2 : Int) := by rw [IntKind.wrap_u64]; omega
      have s6 : (l : Int) / 9223372036854775808 = (lb : Int) := by omega
      have s7 : bits .or .u64 (H2 : Int) (lb : Int) = (h2 : Int) := by rw [bits_or_u64_nat _ _ (by omega) (by omega), hH2, or_low _ _ hlb1, hh2, hH2]
      have s8 : IntKind.u64.wrap ((l : Int) * 2) = (L2 : Int) := by rw [IntKind.wrap_u64]; omega
      have s9 : (q : Int) / 9223372036854775808 = 0 := by omega
      have s10 : IntKind.u64.wrap ((q : Int) * 2) = (q2 : Int) := by rw [IntKind.wrap_u64]; omega
      have HH : Hid (m / 18446744073709551616 = h2) := by unfold Hid; omega
      have HL : Hid (m % 18446744073709551616 = L2) := by unfold Hid; omega
      have hR2 : 2 * r + b = R := by omega
      rw [hR2, ← hq2] at d1 d2
      by_cases hRc : c ≤ R
      · obtain ⟨R3, hR3⟩ : ∃ b, b = R - c := ⟨_, rfl⟩
        have s11 : IntKind.u64.wrap ((R : Int) - (c : Int)) = (R3 : Int) := by rw [IntKind.wrap_u64]; omega
        have s12 : bits .or .u64 (q2 : Int) 1 = ((q2 + 1 : Nat) : Int) := by
          have := bits_or_u64_nat q2 1 (by omega) (by omega)
          rw [hq2, or_low _ _ (Nat.le_refl 1), ← hq2] at this
          exact this
        obtain ⟨q3, hq3⟩ : ∃ b, b = q2 + 1 := ⟨_, rfl⟩
        rw [← hq3] at s12
        have D := Lib.hid (d2 hRc)
        rw [← hR3, ← hq3] at D
        have hRc2 : (c : Int) ≤ (R : Int) := by omega
        clear d1 d2 hn hq hr hAA hh hl hb hm hlb hhx hH2 hL2 hh2 hr2 hR hq2 hb2 hb3 hlb1 hR2 hR3 hq3 HA HD
        go_wp2
        go_roundw
        case rel => exact ⟨k + 1, m, q3, R3, by omega, by rw [HH.out], by rw [HL.out], rfl, rfl, rfl, by go_num, D, by trivial⟩
        case measure => simp [intOf]; omega
      · have D := Lib.hid (d1 (by omega))
        have hRc2 : ¬ (c : Int) ≤ (R : Int) := by omega
        clear d1 d2 hn hq hr hAA hh hl hb hm hlb hhx hH2 hL2 hh2 hr2 hR hq2 hb2 hb3 hlb1 hR2 HA HD
        go_wp2
        go_roundw
        case rel => exact ⟨k + 1, m, q2, R, by omega, by rw [HH.out], by rw [HL.out], rfl, rfl, rfl, by go_num, D, by trivial⟩
        case measure => simp [intOf]; omega
    · obtain rfl : k = 128 := by omega
      obtain ⟨rfl, rfl⟩ := dv_end HD.out
      clear HD
      go_wp2
      go_ret3
      exact ⟨rfl, rfl⟩
end Go.Proofs.Ythpakpljfgmkfaa
