/- Rms of the program. -/
import Derived.Test.YthpakpljfgmkfaaW14
namespace Go.Proofs.Ythpakpljfgmkfaa
open Go.RowKit

/-- An element as Rms takes it. -/
def cut30 (x : Int) : Nat := min x.natAbs 1073741824
/-- The sum of the quotients, and of the remainders, of the first k squares by n. -/
def rw1 (xs : List Int) (n : Nat) : Nat → Nat
  | 0 => 0
  | k + 1 => rw1 xs n k + cut30 (xs.getD k 0) * cut30 (xs.getD k 0) / n
def rr1 (xs : List Int) (n : Nat) : Nat → Nat
  | 0 => 0
  | k + 1 => rr1 xs n k + cut30 (xs.getD k 0) * cut30 (xs.getD k 0) % n
theorem cut_sq (x : Int) : cut30 x * cut30 x ≤ 1152921504606846976 := by
  have h : cut30 x ≤ 1073741824 := by unfold cut30; omega
  exact Nat.mul_le_mul h h
theorem rw1_le (xs : List Int) (n : Nat) : ∀ k, rw1 xs n k ≤ k * (1152921504606846976 / n)
  | 0 => by show 0 ≤ _; omega
  | k + 1 => by
    have ih := rw1_le xs n k
    have h := Nat.div_le_div_right (c := n) (cut_sq (xs.getD k 0))
    unfold rw1
    rw [Nat.add_mul, Nat.one_mul]
    omega
theorem rr1_le (xs : List Int) (n : Nat) (hn : 0 < n) : ∀ k, rr1 xs n k ≤ k * n
  | 0 => by show 0 ≤ _; omega
  | k + 1 => by
    have ih := rr1_le xs n hn k
    have h := Nat.mod_lt (cut30 (xs.getD k 0) * cut30 (xs.getD k 0)) hn
    unfold rr1
    rw [Nat.add_mul, Nat.one_mul]
    omega
/-- What Rms is. -/
def RmsIs (xs : List Int) (r : Nat) : Prop := if xs.length = 0 ∨ chk xs ≠ 0 then r = 0 else IsRoot (rw1 xs xs.length xs.length + rr1 xs xs.length xs.length / xs.length) r
theorem rms_unique {xs : List Int} {r s : Nat} (h1 : RmsIs xs r) (h2 : RmsIs xs s) : r = s := by
  unfold RmsIs at h1 h2
  split at h1
  · rename_i h
    rw [if_pos h] at h2
    omega
  · rename_i h
    rw [if_neg h] at h2
    exact root_unique h1 h2

section
variable (A : Option Addr) (n c B : Nat) (xs : List Int) (w : World)
set_option maxHeartbeats 4000000 in
theorem rms_none : Calls Try.prog 32 #[.slice A 0 c] w fun e w' => e = .returned (.int .i64 0) ∧ Frm w w' NoB := by
  go_enter Try.func32, Try.ntmps32
  go_wp2
  go_ret
  exact ⟨rfl, Frm.refl _ _⟩
set_option maxHeartbeats 4000000 in
theorem rms_chk (hX : LI w A n B xs) (hn : 0 < n) (e0 : Int) (HE : Hid (chk xs = e0)) (h0 : e0 ≠ 0) : Calls Try.prog 32 #[.slice A n c] w fun e w' => e = .returned (.int .i64 0) ∧ Frm w w' NoB := by
  have hb : (e0 != 0) = true := by rw [bne_iff_ne]; exact h0
  have hb2 : ((n : Int) == 0) = false := beq_eq_false_iff_ne.2 (by omega)
  clear h0
  go_enter Try.func32, Try.ntmps32
  go_wp2_with (first | (go_at_call 23; (with_reducible refine (check_b HE hX).mono ?_); rintro e x1 ⟨rfl, f1⟩))
  go_ret
  exact ⟨rfl, f1⟩
set_option maxHeartbeats 8000000 in
theorem rms_ok (hX : LI w A n B xs) (hn : 0 < n) (HE : Hid (chk xs = 0)) :
    Calls Try.prog 32 #[.slice A n c] w fun e w' => ∃ r : Nat, e = .returned (.int .i64 (r : Int)) ∧ IsRoot (rw1 xs n n + rr1 xs n n / n) r ∧ Frm w w' NoB := by
  have hck := chk_zero HE.out
  have hn1 := hck.1
  rw [hX.HN] at hn1
  have HO : Hid (okl xs xs.length) := hck.2
  have HX := Lib.hid hX.HN
  clear hck
  have hb2 : ((n : Int) == 0) = false := beq_eq_false_iff_ne.2 (by omega)
  have hne : (n : Int) ≠ 0 := by omega
  have hne2 : ¬ n = 0 := by omega
  have hF := Frm.refl w NoB
  have HD : Hid (n * (1152921504606846976 / n) ≤ 1152921504606846976) := Nat.mul_div_le _ _
  go_enter Try.func32, Try.ntmps32
  go_wp2_with (first | (go_at_call 23; (with_reducible refine (check_b HE hX).mono ?_); rintro e x1 ⟨rfl, f1⟩; replace hF := hF.trans f1 (fun _ _ h => h); clear f1))
  go_loopw [3, 4, 6, 17] (fun a b _ i wr => ∃ k : Nat, k ≤ n ∧ i = .int .i64 k ∧ a = .int .i64 (rw1 xs n k : Nat) ∧ b = .int .i64 (rr1 xs n k : Nat) ∧ Frm w wr NoB) (fun _ _ _ i _ => n - (intOf i).toNat)
  case atStart => exact ⟨0, Nat.zero_le _, rfl, rfl, rfl, hF⟩
  case round =>
    clear hF
    obtain ⟨k, hk, rfl, rfl, rfl, hF⟩ := hrel
    have hw1 := rw1_le xs n k
    have hr1 := rr1_le xs n hn k
    have hkn : k * (1152921504606846976 / n) ≤ n * (1152921504606846976 / n) := Nat.mul_le_mul_right _ hk
    have hkn2 : k * n ≤ 1024 * 1024 := Nat.mul_le_mul (by omega) (by omega)
    have hdd := HD.out
    by_cases hlt : k < n
    · obtain ⟨b, o, rfl, hb, hcell⟩ := (hX.frm hF).hA.pos (by rw [HX.out]; omega)
      have qk := hcell k (by rw [HX.out]; omega)
      have ok := HO.out k (by rw [HX.out]; omega)
      have he1 : rw1 xs n (k + 1) = rw1 xs n k + cut30 (xs.getD k 0) * cut30 (xs.getD k 0) / n := rfl
      have he2 : rr1 xs n (k + 1) = rr1 xs n k + cut30 (xs.getD k 0) * cut30 (xs.getD k 0) % n := rfl
      have hsq := cut_sq (xs.getD k 0)
      obtain ⟨x, hx⟩ : ∃ x, x = xs.getD k 0 := ⟨_, rfl⟩
      rw [← hx] at qk ok he1 he2 hsq
      obtain ⟨C, hC⟩ : ∃ C, C = cut30 x := ⟨_, rfl⟩
      have hcd : C = min x.natAbs 1073741824 := hC
      rw [← hC] at he1 he2 hsq
      obtain ⟨C2, hC2⟩ : ∃ C2, C2 = C * C := ⟨_, rfl⟩
      rw [← hC2] at he1 he2 hsq
      obtain ⟨W, hW⟩ : ∃ W, W = rw1 xs n k := ⟨_, rfl⟩
      obtain ⟨R, hR⟩ : ∃ R, R = rr1 xs n k := ⟨_, rfl⟩
      rw [← hW] at he1 hw1 ⊢
      rw [← hR] at he2 hr1 ⊢
      obtain ⟨D, hD⟩ : ∃ D, D = C2 / n := ⟨_, rfl⟩
      obtain ⟨E, hE⟩ : ∃ E, E = C2 % n := ⟨_, rfl⟩
      have hDb : D ≤ C2 := by rw [hD]; exact Nat.div_le_self _ _
      have hEb : E ≤ C2 := by rw [hE]; exact Nat.mod_le _ _
      have t1 : IntKind.i64.wrap (-x) = -x := IntWalk.i64_in _ (by omega)
      have t2 : IntKind.i64.wrap ((C : Int) * (C : Int)) = (C2 : Int) := by rw [← Int.natCast_mul, ← hC2]; exact IntWalk.i64_in _ (by omega)
      have t3 : ((C2 : Int)).tdiv (n : Int) = (D : Int) := by rw [hD]; rfl
      have t4 : ((C2 : Int)).tmod (n : Int) = (E : Int) := by rw [hE]; rfl
      have t5 : IntKind.i64.wrap (D : Int) = (D : Int) := IntWalk.i64_in _ (by omega)
      have t6 : IntKind.i64.wrap (E : Int) = (E : Int) := IntWalk.i64_in _ (by omega)
      have t7 : IntKind.i64.wrap ((W : Int) + (D : Int)) = ((W + D : Nat) : Int) := by rw [IntWalk.i64_in _ (by omega)]; omega
      have t8 : IntKind.i64.wrap ((R : Int) + (E : Int)) = ((R + E : Nat) : Int) := by rw [IntWalk.i64_in _ (by omega)]; omega
      rw [← hD] at he1
      rw [← hE] at he2
      have HW1 := Lib.hid he1
      have HR1 := Lib.hid he2
      have hk0 : (0 : Int) ≤ (k : Int) := Int.natCast_nonneg _
      have hk1 : (k : Int) < (n : Int) := by omega
      obtain ⟨y, hy⟩ : ∃ y, y = -x := ⟨_, rfl⟩
      obtain ⟨a, ha⟩ : ∃ a, a = x.natAbs := ⟨_, rfl⟩
      have hmax : (if x < y then y else x) = (a : Int) := by split <;> omega
      have hmin : (if (1073741824 : Int) < (a : Int) then (1073741824 : Int) else (a : Int)) = (C : Int) := by split <;> omega
      replace t1 : IntKind.i64.wrap (-x) = y := t1.trans hy.symm
      obtain ⟨S1, hS1⟩ : ∃ S, S = W + D := ⟨_, rfl⟩
      obtain ⟨S2, hS2⟩ : ∃ S, S = R + E := ⟨_, rfl⟩
      rw [← hS1] at t7 HW1
      rw [← hS2] at t8 HR1
      clear hcell ok he1 he2 hx hC hC2 hcd hy ha hW hR hD hE hX hw1 hr1 hkn hkn2 hdd hDb hEb hsq HD hS1 hS2
      go_wp2
      go_roundw
      case rel => exact ⟨k + 1, by omega, by go_num, by rw [HW1.out], by rw [HR1.out], hF⟩
      case measure => simp [intOf]; omega
    · have hkn3 : k = n := by omega
      subst hkn3
      obtain ⟨W, hW⟩ : ∃ W, W = rw1 xs k k := ⟨_, rfl⟩
      obtain ⟨R, hR⟩ : ∃ R, R = rr1 xs k k := ⟨_, rfl⟩
      rw [← hW] at hw1 ⊢
      rw [← hR] at hr1 ⊢
      obtain ⟨D, hD⟩ : ∃ D, D = R / k := ⟨_, rfl⟩
      have hDb : D ≤ R := by rw [hD]; exact Nat.div_le_self _ _
      have t3 : ((R : Int)).tdiv (k : Int) = (D : Int) := by rw [hD]; rfl
      have t5 : IntKind.i64.wrap (D : Int) = (D : Int) := IntWalk.i64_in _ (by omega)
      have t7 : IntKind.i64.wrap ((W : Int) + (D : Int)) = ((W + D : Nat) : Int) := by rw [IntWalk.i64_in _ (by omega)]; omega
      have hrt := fun w => root_t (W + D) w
      obtain ⟨S1, hS1⟩ : ∃ S, S = W + D := ⟨_, rfl⟩
      rw [← hS1] at t7 hrt
      have HS : Hid (S1 = rw1 xs k k + rr1 xs k k / k) := by unfold Hid; rw [← hW, ← hR, ← hD]; exact hS1
      have HRT := Lib.hid hrt
      clear hX hw1 hr1 hkn hkn2 hdd hDb HD hS1 hrt hW hR hD
      go_wp2_with (first | (go_at_call 45; (with_reducible refine (HRT.out _).mono ?_); rintro e x1 ⟨r, rfl, hr, rfl⟩))
      go_ret
      exact ⟨r, rfl, by rw [← HS.out]; exact hr, hF⟩
end
section
variable {A : Option Addr} {n c B : Nat} {xs : List Int} {w : World}
/-- Rms of the program. -/
theorem rms_s (hX : LI w A n B xs) : Calls Try.prog 32 #[.slice A n c] w fun e w' => ∃ r : Nat, e = .returned (.int .i64 (r : Int)) ∧ RmsIs xs r ∧ Frm w w' NoB := by
  by_cases h0 : n = 0
  · subst h0
    refine (rms_none A c w).mono ?_
    rintro e w' ⟨rfl, f⟩
    exact ⟨0, rfl, by unfold RmsIs; rw [if_pos (.inl hX.HN)], f⟩
  · by_cases h1 : chk xs = 0
    · refine (rms_ok A n c B xs w hX (by omega) h1).mono ?_
      rintro e w' ⟨r, rfl, hr, f⟩
      exact ⟨r, rfl, by unfold RmsIs; rw [if_neg (by rintro (h | h); (rw [hX.HN] at h; omega); exact h h1), hX.HN]; exact hr, f⟩
    · refine (rms_chk A n c B xs w hX (by omega) (chk xs) rfl h1).mono ?_
      rintro e w' ⟨rfl, f⟩
      exact ⟨0, rfl, by unfold RmsIs; rw [if_pos (.inr h1)], f⟩
end
end Go.Proofs.Ythpakpljfgmkfaa
