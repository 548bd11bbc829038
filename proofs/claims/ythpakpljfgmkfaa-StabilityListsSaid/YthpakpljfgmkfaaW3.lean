/- Second differences; the greatest common divisor; a quotient in lowest terms. -/
import Derived.Test.YthpakpljfgmkfaaW2
namespace Go.Proofs.Ythpakpljfgmkfaa
open Go.RowKit

/-- The second difference at i with the distance q. -/
def s2 (xs : List Int) (i q : Nat) : Int := xs.getD (i + 2 * q) 0 - 2 * xs.getD (i + q) 0 + xs.getD i 0
theorem s2_bounds {xs : List Int} (h : okl xs xs.length) {i q : Nat} (hi : i + 2 * q < xs.length) : -4398046511104 ≤ s2 xs i q ∧ s2 xs i q ≤ 4398046511104 := by
  have h1 := h (i + 2 * q) hi
  have h2 := h (i + q) (by omega)
  have h3 := h i (by omega)
  unfold s2
  omega
set_option maxHeartbeats 4000000 in
theorem second_t (A : Option Addr) (n c i q B : Nat) (xs : List Int) (w : World) (hX : LI w A n B xs) (hO : okl xs xs.length) (hn : n ≤ 1024) (hi : i + 2 * q < n) :
    Calls Try.prog 38 #[.slice A n c, .int .i64 (i : Int), .int .i64 (q : Int)] w fun e w' => e = .returned (.int .i64 (s2 xs i q)) ∧ Frm w w' NoB := by
  have HX := Lib.hid hX.HN
  obtain ⟨b, o, rfl, _, hcell⟩ := hX.hA.pos (by rw [HX.out]; omega)
  have h1 := hO (i + 2 * q) (by rw [HX.out]; omega)
  have h2 := hO (i + q) (by rw [HX.out]; omega)
  have h3 := hO i (by rw [HX.out]; omega)
  have q1 := hcell (i + 2 * q) (by rw [HX.out]; omega)
  have q2 := hcell (i + q) (by rw [HX.out]; omega)
  have q3 := hcell i (by rw [HX.out]; omega)
  have hS : s2 xs i q = xs.getD (i + 2 * q) 0 - 2 * xs.getD (i + q) 0 + xs.getD i 0 := rfl
  obtain ⟨Q2, hQ2⟩ : ∃ Q2, Q2 = 2 * q := ⟨_, rfl⟩
  obtain ⟨I2, hI2⟩ : ∃ I2, I2 = i + 2 * q := ⟨_, rfl⟩
  obtain ⟨I1, hI1⟩ : ∃ I1, I1 = i + q := ⟨_, rfl⟩
  rw [← hI2] at h1 q1 hS
  rw [← hI1] at h2 q2 hS
  obtain ⟨x, hx⟩ : ∃ x, x = xs.getD i 0 := ⟨_, rfl⟩
  obtain ⟨y, hy⟩ : ∃ x, x = xs.getD I1 0 := ⟨_, rfl⟩
  obtain ⟨z, hz⟩ : ∃ x, x = xs.getD I2 0 := ⟨_, rfl⟩
  rw [← hx] at h3 q3 hS
  rw [← hy] at h2 q2 hS
  rw [← hz] at h1 q1 hS
  have t1 : IntKind.i64.wrap (2 * (q : Int)) = (Q2 : Int) := by rw [IntWalk.i64_in _ (by omega)]; omega
  have t2 : IntKind.i64.wrap ((i : Int) + (Q2 : Int)) = (I2 : Int) := by rw [IntWalk.i64_in _ (by omega)]; omega
  have t3 : IntKind.i64.wrap ((i : Int) + (q : Int)) = (I1 : Int) := by rw [IntWalk.i64_in _ (by omega)]; omega
  have t4 : IntKind.i64.wrap (2 * y) = 2 * y := IntWalk.i64_in _ (by omega)
  have t5 : IntKind.i64.wrap (z - 2 * y) = z - 2 * y := IntWalk.i64_in _ (by omega)
  have t6 : IntKind.i64.wrap (z - 2 * y + x) = z - 2 * y + x := IntWalk.i64_in _ (by omega)
  have a1 : (0 : Int) ≤ (I2 : Int) := Int.natCast_nonneg _
  have a2 : (I2 : Int) < (n : Int) := by omega
  have a3 : (0 : Int) ≤ (I1 : Int) := Int.natCast_nonneg _
  have a4 : (I1 : Int) < (n : Int) := by omega
  have a5 : (0 : Int) ≤ (i : Int) := Int.natCast_nonneg _
  have a6 : (i : Int) < (n : Int) := by omega
  have HS := Lib.hid hS
  clear hcell hX hO h1 h2 h3 hQ2 hI2 hI1 hx hy hz hS
  go_enter Try.func38, Try.ntmps38
  go_wp2
  go_quiet (fail)
  go_wp2
  go_ret
  exact ⟨by rw [HS.out]; rfl, (Frm.refl w NoB).drewN _⟩

set_option maxHeartbeats 4000000 in
theorem divisor_t (a b : Nat) (w : World) (ha : a ≤ 9223372036854775807) (hb : b ≤ 9223372036854775807) :
    Calls Try.prog 50 #[.int .i64 (a : Int), .int .i64 (b : Int)] w fun e w' => e = .returned (.int .i64 (Nat.gcd a b : Nat)) ∧ Frm w w' NoB := by
  have hF : Frm w w NoB := Frm.refl w _
  go_enter Try.func50, Try.ntmps50
  go_wp2
  go_loopw [0, 1] (fun u v wr => ∃ x y : Nat, x ≤ 9223372036854775807 ∧ y ≤ 9223372036854775807 ∧ u = .int .i64 x ∧ v = .int .i64 y ∧ Hid (Nat.gcd x y = Nat.gcd a b) ∧ Frm w wr NoB) (fun _ v _ => (intOf v).toNat)
  case atStart => exact ⟨a, b, ha, hb, rfl, rfl, rfl, hF⟩
  case round =>
    clear hF
    obtain ⟨x, y, hx, hy, rfl, rfl, HG, hF⟩ := hrel
    by_cases h0 : y = 0
    · subst h0
      go_wp2
      go_ret
      refine ⟨?_, hF⟩
      have := HG.out
      rw [Nat.gcd_zero_right] at this
      rw [← this]
      rfl
    · have hb : ((y : Int) != 0) = true := by rw [bne_iff_ne]; omega
      have hne : (y : Int) ≠ 0 := by omega
      have hlt := Nat.mod_lt x (show 0 < y by omega)
      obtain ⟨r, hr⟩ : ∃ r, r = x % y := ⟨_, rfl⟩
      have t1 : ((x : Int)).tmod (y : Int) = (r : Int) := by rw [hr]; rfl
      have t2 : IntKind.i64.wrap (r : Int) = (r : Int) := IntWalk.i64_in _ (by omega)
      have HG2 : Hid (Nat.gcd y r = Nat.gcd a b) := by unfold Hid; rw [hr, ← HG.out, Nat.gcd_comm x y, Nat.gcd_rec y x, Nat.gcd_comm]
      have hry : r < y := by omega
      clear hr hlt h0
      go_wp2
      go_quiet (fail)
      go_wp2
      go_roundw
      case rel => exact ⟨y, r, hy, by omega, by trivial, by trivial, HG2, hF.drewN _⟩
      case measure => simp [intOf]; omega
end Go.Proofs.Ythpakpljfgmkfaa
