/- The checked product and sum of the reference. -/
import Derived.Test.YthpakpljfgmkfaaW19
namespace Go.Proofs.Ythpakpljfgmkfaa
open Go.RowKit Go.Lib

set_option maxHeartbeats 4000000 in
theorem size_t (x : Int) (m : Nat) (w : World) (hx : x = (m : Int) ∨ x = -(m : Int)) (hm : m ≤ 9223372036854775807) :
    Calls Try.prog 55 #[.int .i64 x] w fun e w' => e = .returned (.int .u64 (m : Int)) ∧ w = w' := by
  by_cases h0 : x < 0
  · have t1 : IntKind.i64.wrap (x + 1) = x + 1 := IntWalk.i64_in _ (by omega)
    have t2 : IntKind.i64.wrap (-(x + 1)) = ((m - 1 : Nat) : Int) := by rw [IntWalk.i64_in _ (by omega)]; omega
    have t3 : IntKind.u64.wrap ((m - 1 : Nat) : Int) = ((m - 1 : Nat) : Int) := by rw [IntKind.wrap_u64]; omega
    have t4 : IntKind.u64.wrap (((m - 1 : Nat) : Int) + 1) = (m : Int) := by rw [IntKind.wrap_u64]; omega
    generalize ((m - 1 : Nat) : Int) = r at t2 t3 t4
    obtain ⟨y, hy⟩ : ∃ y, y = x + 1 := ⟨_, rfl⟩
    replace t1 : IntKind.i64.wrap (x + 1) = y := t1.trans hy.symm
    rw [← hy] at t2
    clear hx hy
    go_enter Try.func55, Try.ntmps55
    go_wp2
    go_ret
    exact ⟨rfl, rfl⟩
  · obtain rfl : x = (m : Int) := by omega
    have t3 : IntKind.u64.wrap (m : Int) = (m : Int) := by rw [IntKind.wrap_u64]; omega
    clear hx
    go_enter Try.func55, Try.ntmps55
    go_wp2
    go_ret
    exact ⟨rfl, rfl⟩

theorem prod_lo (x y : Nat) : (x % 4294967296 * (y / 4294967296) + (x / 4294967296 * (y % 4294967296) + x % 4294967296 * (y % 4294967296) / 4294967296) % 4294967296) % 4294967296 * 4294967296 + x % 4294967296 * (y % 4294967296) % 4294967296 = x * y % 18446744073709551616 := by
  have e : x * y = (x / 4294967296) * (y / 4294967296) * (4294967296 * 4294967296) + ((x / 4294967296) * (y % 4294967296) + (x % 4294967296) * (y / 4294967296)) * 4294967296 + (x % 4294967296) * (y % 4294967296) := by
    have h := Go.Lib.split_mul (x / 4294967296) (x % 4294967296) (y / 4294967296) (y % 4294967296) 4294967296
    rw [Nat.div_add_mod' x 4294967296, Nat.div_add_mod' y 4294967296] at h
    exact h
  rw [e]
  generalize (x / 4294967296) * (y / 4294967296) = a
  generalize (x / 4294967296) * (y % 4294967296) = b
  generalize (x % 4294967296) * (y / 4294967296) = c
  generalize (x % 4294967296) * (y % 4294967296) = d
  omega
theorem qdiv (a b : Nat) : ((a : Int)).tdiv (b : Int) = ((a / b : Nat) : Int) := rfl
theorem qmod (a b : Nat) : ((a : Int)).tmod (b : Int) = ((a % b : Nat) : Int) := rfl
set_option maxHeartbeats 8000000 in
theorem product_t (x y : Nat) (w : World) (hx : x < 18446744073709551616) (hy : y < 18446744073709551616) :
    Calls Try.prog 56 #[.int .u64 x, .int .u64 y] w fun e w' => e = .returned (.tuple #[.int .u64 ((x * y / 18446744073709551616 : Nat) : Int), .int .u64 ((x * y % 18446744073709551616 : Nat) : Int)]) ∧ w = w' := by
  obtain ⟨bd, bt, bw, hhi⟩ := mul64_hi x y hx hy
  have hlo := prod_lo x y
  have ha1 : x / 4294967296 ≤ 4294967295 := by omega
  have ha0 : x % 4294967296 ≤ 4294967295 := by omega
  have hb1 : y / 4294967296 ≤ 4294967295 := by omega
  have hb0 : y % 4294967296 ≤ 4294967295 := by omega
  obtain ⟨a1, e1⟩ : ∃ a, a = x / 4294967296 := ⟨_, rfl⟩
  obtain ⟨a0, e2⟩ : ∃ a, a = x % 4294967296 := ⟨_, rfl⟩
  obtain ⟨b1, e3⟩ : ∃ a, a = y / 4294967296 := ⟨_, rfl⟩
  obtain ⟨b0, e4⟩ : ∃ a, a = y % 4294967296 := ⟨_, rfl⟩
  have d1 : ((x : Int)).tdiv 4294967296 = (a1 : Int) := by rw [e1]; rfl
  have d2 : ((x : Int)).tmod 4294967296 = (a0 : Int) := by rw [e2]; rfl
  have d3 : ((y : Int)).tdiv 4294967296 = (b1 : Int) := by rw [e3]; rfl
  have d4 : ((y : Int)).tmod 4294967296 = (b0 : Int) := by rw [e4]; rfl
  obtain ⟨H, hH⟩ : ∃ H, H = x * y / 18446744073709551616 := ⟨_, rfl⟩
  obtain ⟨Lo, hL⟩ : ∃ H, H = x * y % 18446744073709551616 := ⟨_, rfl⟩
  have hLb : Lo < 18446744073709551616 := by rw [hL]; exact Nat.mod_lt _ (by decide)
  have hHb : H < 18446744073709551616 := by
    rw [hH]
    have h1 : x * y ≤ 18446744073709551615 * 18446744073709551615 := Nat.mul_le_mul (by omega) (by omega)
    omega
  simp only [← e1, ← e2, ← e3, ← e4] at ha1 ha0 hb1 hb0 bd bt bw hhi hlo
  rw [← hH] at hhi ⊢
  rw [← hL] at hlo ⊢
  have p1 := half_mul_le ha1 hb1
  have p2 := half_mul_le ha1 hb0
  have p3 := half_mul_le ha0 hb1
  have p4 := half_mul_le ha0 hb0
  obtain ⟨A, hA⟩ : ∃ A, A = a1 * b1 := ⟨_, rfl⟩
  obtain ⟨Bq, hB⟩ : ∃ A, A = a1 * b0 := ⟨_, rfl⟩
  obtain ⟨C, hC⟩ : ∃ A, A = a0 * b1 := ⟨_, rfl⟩
  obtain ⟨D, hD⟩ : ∃ A, A = a0 * b0 := ⟨_, rfl⟩
  have m1 : IntKind.u64.wrap ((a1 : Int) * (b1 : Int)) = (A : Int) := by rw [← Int.natCast_mul, ← hA, IntKind.wrap_u64]; omega
  have m2 : IntKind.u64.wrap ((a1 : Int) * (b0 : Int)) = (Bq : Int) := by rw [← Int.natCast_mul, ← hB, IntKind.wrap_u64]; omega
  have m3 : IntKind.u64.wrap ((a0 : Int) * (b1 : Int)) = (C : Int) := by rw [← Int.natCast_mul, ← hC, IntKind.wrap_u64]; omega
  have m4 : IntKind.u64.wrap ((a0 : Int) * (b0 : Int)) = (D : Int) := by rw [← Int.natCast_mul, ← hD, IntKind.wrap_u64]; omega
  rw [← hA, ← hB, ← hC, ← hD] at hhi
  rw [← hB, ← hC, ← hD] at hlo
  rw [← hB, ← hD] at bt
  rw [← hB, ← hC, ← hD] at bw
  obtain ⟨D1, hD1⟩ : ∃ A, A = D / 4294967296 := ⟨_, rfl⟩
  obtain ⟨D0, hD0⟩ : ∃ A, A = D % 4294967296 := ⟨_, rfl⟩
  have v1 : ((D : Int)).tdiv 4294967296 = (D1 : Int) := by rw [hD1]; rfl
  have v2 : ((D : Int)).tmod 4294967296 = (D0 : Int) := by rw [hD0]; rfl
  rw [← hD1] at bt bw hhi hlo
  rw [← hD0] at hlo
  obtain ⟨Mi, hMi⟩ : ∃ A, A = Bq + D1 := ⟨_, rfl⟩
  rw [← hMi] at bt bw hhi hlo
  have v3 : IntKind.u64.wrap ((Bq : Int) + (D1 : Int)) = (Mi : Int) := by rw [IntKind.wrap_u64]; omega
  obtain ⟨M1, hM1⟩ : ∃ A, A = Mi / 4294967296 := ⟨_, rfl⟩
  obtain ⟨M0, hM0⟩ : ∃ A, A = Mi % 4294967296 := ⟨_, rfl⟩
  have v4 : ((Mi : Int)).tdiv 4294967296 = (M1 : Int) := by rw [hM1]; rfl
  have v5 : ((Mi : Int)).tmod 4294967296 = (M0 : Int) := by rw [hM0]; rfl
  rw [← hM1] at hhi
  rw [← hM0] at bw hhi hlo
  obtain ⟨Mo, hMo⟩ : ∃ A, A = C + M0 := ⟨_, rfl⟩
  have hMo2 : M0 + C = Mo := by omega
  rw [hMo2] at bw hhi
  rw [← hMo] at hlo
  have v6 : IntKind.u64.wrap ((C : Int) + (M0 : Int)) = (Mo : Int) := by rw [IntKind.wrap_u64]; omega
  obtain ⟨N1, hN1⟩ : ∃ A, A = Mo / 4294967296 := ⟨_, rfl⟩
  obtain ⟨N0, hN0⟩ : ∃ A, A = Mo % 4294967296 := ⟨_, rfl⟩
  have v7 : ((Mo : Int)).tdiv 4294967296 = (N1 : Int) := by rw [hN1]; rfl
  have v8 : ((Mo : Int)).tmod 4294967296 = (N0 : Int) := by rw [hN0]; rfl
  rw [← hN1] at hhi
  rw [← hN0] at hlo
  have v9 : IntKind.u64.wrap ((A : Int) + (M1 : Int)) = ((A + M1 : Nat) : Int) := by rw [IntKind.wrap_u64]; omega
  obtain ⟨S1, hS1⟩ : ∃ A', A' = A + M1 := ⟨_, rfl⟩
  rw [← hS1] at v9 hhi
  have v10 : IntKind.u64.wrap ((S1 : Int) + (N1 : Int)) = (H : Int) := by rw [IntKind.wrap_u64]; omega
  obtain ⟨N2, hN2⟩ : ∃ A, A = N0 * 4294967296 := ⟨_, rfl⟩
  rw [← hN2] at hlo
  have v11 : IntKind.u64.wrap ((N0 : Int) * 4294967296) = (N2 : Int) := by rw [IntKind.wrap_u64]; omega
  have v12 : IntKind.u64.wrap ((N2 : Int) + (D0 : Int)) = (Lo : Int) := by rw [IntKind.wrap_u64]; omega
  have u1 : IntKind.u64.wrap (a1 : Int) = (a1 : Int) := by rw [IntKind.wrap_u64]; omega
  have u2 : IntKind.u64.wrap (b1 : Int) = (b1 : Int) := by rw [IntKind.wrap_u64]; omega
  have u3 : IntKind.u64.wrap (D1 : Int) = (D1 : Int) := by rw [IntKind.wrap_u64]; omega
  have u4 : IntKind.u64.wrap (M1 : Int) = (M1 : Int) := by rw [IntKind.wrap_u64]; omega
  have u5 : IntKind.u64.wrap (N1 : Int) = (N1 : Int) := by rw [IntKind.wrap_u64]; omega
  clear bd bt bw hhi hlo ha1 ha0 hb1 hb0 e1 e2 e3 e4 hH hL hLb hHb p1 p2 p3 p4 hA hB hC hD hD1 hD0 hMi hM1 hM0 hMo hMo2 hN1 hN0 hS1 hN2 hx hy
  go_enter Try.func56, Try.ntmps56
  go_wp2
  go_ret2
  exact ⟨rfl, rfl⟩
end Go.Proofs.Ythpakpljfgmkfaa
