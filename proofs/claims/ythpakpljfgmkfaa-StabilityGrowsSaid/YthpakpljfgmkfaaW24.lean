/- slices.Max and slices.Min. -/
import Derived.Test.YthpakpljfgmkfaaW23
namespace Go.Proofs.Ythpakpljfgmkfaa
open Go.RowKit
section
variable (A : Option Addr) (n c B : Nat) (xs : List Int) (w : World)
set_option maxHeartbeats 4000000 in
theorem max_t (hX : LI w A n B xs) (hn : 1 ≤ n) (hn2 : n ≤ 1024) : Calls Try.prog 14 #[.slice A n c] w fun e w' => e = .returned (.int .i64 (mxI xs 0 n)) ∧ Frm w w' NoB := by
  have HX := Lib.hid hX.HN
  have hF := Frm.refl w NoB
  obtain ⟨b, o, rfl, hb, hcell⟩ := hX.hA.pos (by rw [HX.out]; omega)
  have hbw : b < w.heap.size := Nat.lt_of_lt_of_le hb hX.hB
  have q0 := hcell 0 (by rw [HX.out]; omega)
  rw [Nat.add_zero] at q0
  have g1 : decide ((n : Int) < 1) = false := decide_eq_false (by omega)
  have g1b : ¬ n = 0 := by omega
  have h0 : (0 : Int) < (n : Int) := by omega
  have h0b : 0 < n := by omega
  have e1 : mxI xs 0 1 = xs.getD 0 0 := by show (if _ < _ then xs.getD (0 + 0) 0 else xs.getD 0 0) = _; rw [Nat.add_zero]; split <;> rfl
  obtain ⟨x0, hx0⟩ : ∃ x, x = xs.getD 0 0 := ⟨_, rfl⟩
  rw [← hx0] at q0 e1
  have E1 := Lib.hid e1
  have HC := Lib.hid hcell
  clear hcell e1 hx0 hX
  go_enter Try.func14, Try.ntmps14
  go_wp2
  go_loopw [3, 4] (fun m i wr => ∃ k : Nat, 1 ≤ k ∧ k ≤ n ∧ i = .int .i64 k ∧ m = .int .i64 (mxI xs 0 k) ∧ w = wr) (fun _ i _ => n - (intOf i).toNat)
  case atStart => exact ⟨1, Nat.le_refl _, hn, rfl, by rw [E1.out], rfl⟩
  case round =>
    obtain ⟨k, hk1, hk, rfl, rfl, rfl⟩ := hrel
    by_cases hlt : k < n
    · have qk := HC.out k (by rw [HX.out]; omega)
      have e1 : mxI xs 0 (k + 1) = if mxI xs 0 k < xs.getD (0 + k) 0 then xs.getD (0 + k) 0 else mxI xs 0 k := rfl
      rw [Nat.zero_add] at e1
      obtain ⟨x, hx⟩ : ∃ x, x = xs.getD k 0 := ⟨_, rfl⟩
      obtain ⟨m, hm⟩ : ∃ x, x = mxI xs 0 k := ⟨_, rfl⟩
      rw [← hx] at qk e1
      rw [← hm] at e1 ⊢
      obtain ⟨m2, hm2⟩ : ∃ x, x = mxI xs 0 (k + 1) := ⟨_, rfl⟩
      rw [← hm2] at e1
      have e2 := e1.symm
      have HM2 := Lib.hid hm2
      have hk0 : (0 : Int) ≤ (k : Int) := Int.natCast_nonneg _
      have hk2 : (k : Int) < (n : Int) := by omega
      clear hx hm hm2 e1
      go_wp2
      go_roundw
      case rel => exact ⟨k + 1, by omega, by omega, by go_num, by rw [HM2.out], by trivial⟩
      case measure => simp [intOf]; omega
    · have hkn : k = n := by omega
      subst hkn
      go_wp2
      go_ret
      exact ⟨rfl, hF⟩
set_option maxHeartbeats 4000000 in
theorem min_t (hX : LI w A n B xs) (hn : 1 ≤ n) (hn2 : n ≤ 1024) : Calls Try.prog 15 #[.slice A n c] w fun e w' => e = .returned (.int .i64 (mnI xs 0 n)) ∧ Frm w w' NoB := by
  have HX := Lib.hid hX.HN
  have hF := Frm.refl w NoB
  obtain ⟨b, o, rfl, hb, hcell⟩ := hX.hA.pos (by rw [HX.out]; omega)
  have hbw : b < w.heap.size := Nat.lt_of_lt_of_le hb hX.hB
  have q0 := hcell 0 (by rw [HX.out]; omega)
  rw [Nat.add_zero] at q0
  have g1 : decide ((n : Int) < 1) = false := decide_eq_false (by omega)
  have g1b : ¬ n = 0 := by omega
  have h0 : (0 : Int) < (n : Int) := by omega
  have h0b : 0 < n := by omega
  have e1 : mnI xs 0 1 = xs.getD 0 0 := by show (if _ < _ then xs.getD (0 + 0) 0 else xs.getD 0 0) = _; rw [Nat.add_zero]; split <;> rfl
  obtain ⟨x0, hx0⟩ : ∃ x, x = xs.getD 0 0 := ⟨_, rfl⟩
  rw [← hx0] at q0 e1
  have E1 := Lib.hid e1
  have HC := Lib.hid hcell
  clear hcell e1 hx0 hX
  go_enter Try.func15, Try.ntmps15
  go_wp2
  go_loopw [3, 4] (fun m i wr => ∃ k : Nat, 1 ≤ k ∧ k ≤ n ∧ i = .int .i64 k ∧ m = .int .i64 (mnI xs 0 k) ∧ w = wr) (fun _ i _ => n - (intOf i).toNat)
  case atStart => exact ⟨1, Nat.le_refl _, hn, rfl, by rw [E1.out], rfl⟩
  case round =>
    obtain ⟨k, hk1, hk, rfl, rfl, rfl⟩ := hrel
    by_cases hlt : k < n
    · have qk := HC.out k (by rw [HX.out]; omega)
      have e1 : mnI xs 0 (k + 1) = if xs.getD (0 + k) 0 < mnI xs 0 k then xs.getD (0 + k) 0 else mnI xs 0 k := rfl
      rw [Nat.zero_add] at e1
      obtain ⟨x, hx⟩ : ∃ x, x = xs.getD k 0 := ⟨_, rfl⟩
      obtain ⟨m, hm⟩ : ∃ x, x = mnI xs 0 k := ⟨_, rfl⟩
      rw [← hx] at qk e1
      rw [← hm] at e1 ⊢
      obtain ⟨m2, hm2⟩ : ∃ x, x = mnI xs 0 (k + 1) := ⟨_, rfl⟩
      rw [← hm2] at e1
      have e2 := e1.symm
      have HM2 := Lib.hid hm2
      have hk0 : (0 : Int) ≤ (k : Int) := Int.natCast_nonneg _
      have hk2 : (k : Int) < (n : Int) := by omega
      clear hx hm hm2 e1
      go_wp2
      go_roundw
      case rel => exact ⟨k + 1, by omega, by omega, by go_num, by rw [HM2.out], by trivial⟩
      case measure => simp [intOf]; omega
    · have hkn : k = n := by omega
      subst hkn
      go_wp2
      go_ret
      exact ⟨rfl, hF⟩
end
end Go.Proofs.Ythpakpljfgmkfaa
