/- StabilityRanges, walked. -/
import Derived.Test.YthpakpljfgmkfaaW18
namespace Go.Proofs.Ythpakpljfgmkfaa
open Go.RowKit

section
variable (A : Option Addr) (n c B : Nat) (xs : List Int) (d : Int) (w : World)
set_option maxHeartbeats 4000000 in
theorem rrange_chk (hX : LI w A n B xs) (e0 : Int) (HE : Hid (chk xs = e0)) (h0 : e0 ≠ 0) :
    Calls Try.prog 22 #[.slice A n c, .int .i64 d] w fun e w' => e = .returned (.tuple #[.int .i64 0, .int .i64 e0]) ∧ Frm w w' NoB := by
  have hb : (e0 != 0) = true := by rw [bne_iff_ne]; exact h0
  clear h0
  go_enter Try.func22, Try.ntmps22
  go_wp2_with (first | (go_at_call 24; (with_reducible refine (rcheck_b HE hX).mono ?_); rintro e x1 ⟨rfl, f1⟩))
  go_ret2
  exact ⟨rfl, f1⟩
set_option maxHeartbeats 4000000 in
theorem rrange_rng (hX : LI w A n B xs) (HE : Hid (chk xs = 0)) (hd : d < 1 ∨ (n : Int) - 1 < d) :
    Calls Try.prog 22 #[.slice A n c, .int .i64 d] w fun e w' => e = .returned (.tuple #[.int .i64 0, .int .i64 3]) ∧ Frm w w' NoB := by
  have hn := (chk_zero HE.out).1
  rw [hX.HN] at hn
  have g2 : IntKind.i64.wrap ((n : Int) - 1) = (n : Int) - 1 := IntWalk.i64_in _ (by omega)
  by_cases h1 : d < 1
  · have g1 : decide (d < 1) = true := decide_eq_true h1
    clear hd
    go_enter Try.func22, Try.ntmps22
    go_wp2_with (first | (go_at_call 24; (with_reducible refine (rcheck_b HE hX).mono ?_); rintro e x1 ⟨rfl, f1⟩))
    go_ret2
    exact ⟨rfl, f1⟩
  · have g1 : decide (d < 1) = false := decide_eq_false h1
    have h3 : (n : Int) - 1 < d := by omega
    have g3 : decide ((n : Int) - 1 < d) = true := decide_eq_true h3
    clear hd
    go_enter Try.func22, Try.ntmps22
    go_wp2_with (first | (go_at_call 24; (with_reducible refine (rcheck_b HE hX).mono ?_); rintro e x1 ⟨rfl, f1⟩))
    go_ret2
    exact ⟨rfl, f1⟩
end
section
variable {A : Option Addr} {n c B : Nat} {xs ps : List Int} {d e0 v0 : Int} {w : World}
/-- Range of the reference. -/
theorem rrange_s (HE : Hid (rgE xs d = e0)) (HV : Hid (rgV xs d = v0)) (hX : LI w A n B xs) :
    Calls Try.prog 22 #[.slice A n c, .int .i64 d] w fun e w' => e = .returned (.tuple #[.int .i64 v0, .int .i64 e0]) ∧ Frm w w' NoB := by
  rw [← HE.out, ← HV.out]
  by_cases h0 : chk xs = 0
  · by_cases h1 : d < 1 ∨ (xs.length : Int) - 1 < d
    · have he : rgE xs d = 3 := by unfold rgE; rw [if_neg (not_not_intro h0), if_pos h1]
      unfold rgV
      rw [he, if_neg (by decide)]
      exact rrange_rng A n c B xs d w hX h0 (by rw [← hX.HN]; exact h1)
    · obtain ⟨q, rfl⟩ : ∃ q : Nat, d = (q : Int) := ⟨d.toNat, by omega⟩
      have hN := hX.HN
      have he : rgE xs (q : Int) = 0 := by unfold rgE; rw [if_neg (not_not_intro h0), if_neg h1]
      unfold rgV
      rw [he, if_pos rfl, Int.toNat_natCast, hN]
      obtain ⟨b, o, rfl, _, _⟩ := hX.hA.pos (by omega)
      exact rrange_ok b o n c q B xs w hX h0 (by omega) (by omega)
  · have he : rgE xs d = chk xs := by unfold rgE; rw [if_pos h0]
    unfold rgV
    rw [he, if_neg h0]
    exact rrange_chk A n c B xs d w hX (chk xs) rfl h0
end
theorem long_t (A : Option Addr) (n c : Nat) (w : World) : Calls Try.prog 21 #[.slice A n c] w fun e w' => e = .returned (.bool (decide (1100 < n))) ∧ w = w' := by
  go_enter Try.func21, Try.ntmps21
  go_wp2
  go_ret
  exact ⟨by rw [show decide ((1100 : Int) < (n : Int)) = decide (1100 < n) from decide_eq_decide.2 (by omega)]; rfl, rfl⟩
theorem long_b {A : Option Addr} {n c : Nat} {p : Bool} (H : Hid (decide (1100 < n) = p)) (w : World) : Calls Try.prog 21 #[.slice A n c] w fun e w' => e = .returned (.bool p) ∧ w = w' := by
  rw [← H.out]; exact long_t A n c w
set_option maxHeartbeats 8000000 in
theorem stabilityRanges_walk (A : Option Addr) (n c B : Nat) (xs : List Int) (d : Int) (w : World) (H1 : n ≤ 1100 → LI w A n B xs) (hc : n ≤ c) :
    Calls Try.prog 5 #[.slice A n c, .int .i64 d] w fun e w' => e = .returned (.bool true) ∧ Frm w w' NoB := by
  have hF : Frm w w NoB := Frm.refl w _
  by_cases hl : 1100 < n
  · have HL := Lib.hid (decide_eq_true hl)
    clear H1 hl
    go_enter Try.func5, Try.ntmps5
    go_wp2_with (first | (go_at_call 21; (with_reducible refine (long_b HL _).mono ?_); rintro e x1 ⟨rfl, rfl⟩) | (go_at_call 16; (with_reducible refine (awake_t _).mono ?_); rintro e x1 ⟨rfl, f1⟩; replace hF := hF.trans f1 (fun _ _ h => h); clear f1))
    go_ret
    exact ⟨rfl, hF⟩
  · have HL := Lib.hid (decide_eq_false hl)
    have hX := (H1 (by omega)).up
    clear H1 hl
    obtain ⟨e0, he⟩ : ∃ e, rgE xs d = e := ⟨_, rfl⟩
    obtain ⟨v0, hv⟩ : ∃ e, rgV xs d = e := ⟨_, rfl⟩
    obtain ⟨k0, hk⟩ : ∃ e, chk xs = e := ⟨_, rfl⟩
    have HE := Lib.hid he
    have HV := Lib.hid hv
    have HK := Lib.hid hk
    clear he hv hk
    go_enter Try.func5, Try.ntmps5
    go_wp2_with (first
      | (go_at_call 21; (with_reducible refine (long_b HL _).mono ?_); rintro e x1 ⟨rfl, rfl⟩)
      | (go_at_call 13; (with_reducible refine (range_s HE HV hX hc).mono ?_); rintro e x1 ⟨rfl, f1⟩; replace hX := hX.frm f1; replace hF := hF.trans f1 (fun _ _ h => h); clear f1)
      | (go_at_call 22; (with_reducible refine (rrange_s HE HV hX).mono ?_); rintro e x1 ⟨rfl, f1⟩; replace hX := hX.frm f1; replace hF := hF.trans f1 (fun _ _ h => h); clear f1)
      | (go_at_call 23; (with_reducible refine (check_b HK hX).mono ?_); rintro e x1 ⟨rfl, f1⟩; replace hX := hX.frm f1; replace hF := hF.trans f1 (fun _ _ h => h); clear f1)
      | (go_at_call 24; (with_reducible refine (rcheck_b HK hX).mono ?_); rintro e x1 ⟨rfl, f1⟩; replace hX := hX.frm f1; replace hF := hF.trans f1 (fun _ _ h => h); clear f1)
      | (go_at_call 16; (with_reducible refine (awake_t _).mono ?_); rintro e x1 ⟨rfl, f1⟩; replace hF := hF.trans f1 (fun _ _ h => h); clear f1))
    go_ret
    exact ⟨rfl, hF⟩
end Go.Proofs.Ythpakpljfgmkfaa
