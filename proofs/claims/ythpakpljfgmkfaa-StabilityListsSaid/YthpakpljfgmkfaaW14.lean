/- The square root; Rms of the program. -/
import Derived.Test.YthpakpljfgmkfaaW13
namespace Go.Proofs.Ythpakpljfgmkfaa
open Go.RowKit

/-- The root of n, rounded down: the greatest r of at most 2^31 with r r <= n. -/
def IsRoot (n r : Nat) : Prop := r * r ≤ n ∧ (r < 2147483648 → n < (r + 1) * (r + 1)) ∧ r ≤ 2147483648
theorem root_unique {n r s : Nat} (h1 : IsRoot n r) (h2 : IsRoot n s) : r = s := by
  have key : ∀ {r s : Nat}, IsRoot n r → IsRoot n s → r ≤ s := by
    intro r s h1 h2
    rcases Nat.lt_or_ge s r with h | h
    · have := h2.2.1 (by have := h1.2.2; omega)
      have h3 : (s + 1) * (s + 1) ≤ r * r := Nat.mul_le_mul h h
      have := h1.1
      omega
    · exact h
  exact Nat.le_antisymm (key h1 h2) (key h2 h1)
set_option maxHeartbeats 4000000 in
theorem root_t (x : Nat) (w : World) :
    Calls Try.prog 45 #[.int .i64 (x : Int)] w fun e w' => ∃ r, e = .returned (.int .i64 (r : Nat)) ∧ IsRoot x r ∧ w = w' := by
  go_enter Try.func45, Try.ntmps45
  go_wp2
  go_loopw [3, 4, 5] (fun lo hi _ wr => ∃ l h : Nat, lo = .int .i64 (l : Int) ∧ hi = .int .i64 (h : Int) ∧ l ≤ h ∧ h ≤ 2147483648 ∧ Hid (l * l ≤ x) ∧ Hid (h < 2147483648 → x < (h + 1) * (h + 1)) ∧ w = wr) (fun lo hi _ _ => (intOf hi).toNat - (intOf lo).toNat)
  case atStart => exact ⟨0, 2147483648, rfl, rfl, by decide, Nat.le_refl _, Nat.zero_le _, fun h => absurd h (by decide), rfl⟩
  case round =>
    obtain ⟨l, h, rfl, rfl, hlh, hh, HL, HH, rfl⟩ := hrel
    by_cases hlt : l < h
    · obtain ⟨m, hm⟩ : ∃ m, m = (l + h + 1) / 2 := ⟨_, rfl⟩
      have hm1 : l < m := by omega
      have hm2 : m ≤ h := by omega
      have t1 : IntKind.i64.wrap ((l : Int) + (h : Int)) = (l : Int) + (h : Int) := IntWalk.i64_in _ (by omega)
      have t2 : IntKind.i64.wrap ((l : Int) + (h : Int) + 1) = (l : Int) + (h : Int) + 1 := IntWalk.i64_in _ (by omega)
      have t3 : ((l : Int) + (h : Int) + 1).tdiv 2 = (m : Int) := by rw [hm]; rfl
      have t4 : IntKind.i64.wrap (m : Int) = (m : Int) := IntWalk.i64_in _ (by omega)
      obtain ⟨M, hM⟩ : ∃ M, M = m * m := ⟨_, rfl⟩
      have hMb : M ≤ 2147483648 * 2147483648 := by rw [hM]; exact Nat.mul_le_mul (by omega) (by omega)
      have t5 : IntKind.i64.wrap ((m : Int) * (m : Int)) = (M : Int) := by rw [← Int.natCast_mul, ← hM]; exact IntWalk.i64_in _ (by omega)
      have t6 : IntKind.i64.wrap ((m : Int) - 1) = ((m - 1 : Nat) : Int) := by rw [IntWalk.i64_in _ (by omega)]; omega
      have hl1 : (l : Int) < (h : Int) := by omega
      by_cases hmx : M ≤ x
      · have HL2 : Hid (m * m ≤ x) := by unfold Hid; rw [← hM]; exact hmx
        have hmx2 : (M : Int) ≤ (x : Int) := by omega
        clear hm hM hMb t6
        go_wp2
        go_roundw
        case rel => exact ⟨m, h, rfl, rfl, hm2, hh, HL2, HH, by trivial⟩
        case measure => simp [intOf]; omega
      · obtain ⟨m1, hm1'⟩ : ∃ m1, m1 = m - 1 := ⟨_, rfl⟩
        have HH2 : Hid (m1 < 2147483648 → x < (m1 + 1) * (m1 + 1)) := fun _ => by
          have e : m1 + 1 = m := by omega
          rw [e, ← hM]; omega
        have hmx2 : ¬ (M : Int) ≤ (x : Int) := by omega
        rw [← hm1'] at t6
        have hm3 : m1 < h := by omega
        have hm4 : l ≤ m1 := by omega
        clear hm hM hMb hm1'
        go_wp2
        go_roundw
        case rel => exact ⟨l, m1, rfl, rfl, hm4, by omega, HL, HH2, by trivial⟩
        case measure => simp [intOf]; omega
    · have hlh2 : l = h := by omega
      subst hlh2
      go_wp2
      go_ret
      exact ⟨l, rfl, ⟨HL.out, HH.out, hh⟩, rfl⟩
end Go.Proofs.Ythpakpljfgmkfaa
