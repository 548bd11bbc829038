/- Range of the program, all results; Detrend likewise. -/
import Derived.Test.YthpakpljfgmkfaaW15
namespace Go.Proofs.Ythpakpljfgmkfaa
open Go.RowKit

section
variable (A : Option Addr) (n c B : Nat) (xs : List Int) (d : Int) (w : World)
set_option maxHeartbeats 4000000 in
theorem range_chk (hX : LI w A n B xs) (e0 : Int) (HE : Hid (chk xs = e0)) (h0 : e0 ≠ 0) :
    Calls Try.prog 13 #[.slice A n c, .int .i64 d] w fun e w' => e = .returned (.tuple #[.int .i64 0, .int .i64 e0]) ∧ Frm w w' NoB := by
  have hb : (e0 != 0) = true := by rw [bne_iff_ne]; exact h0
  clear h0
  go_enter Try.func13, Try.ntmps13
  go_wp2_with (first | (go_at_call 23; (with_reducible refine (check_b HE hX).mono ?_); rintro e x1 ⟨rfl, f1⟩))
  go_ret2
  exact ⟨rfl, f1⟩
set_option maxHeartbeats 4000000 in
theorem range_rng (hX : LI w A n B xs) (HE : Hid (chk xs = 0)) (hd : d < 1 ∨ (n : Int) - 1 < d) :
    Calls Try.prog 13 #[.slice A n c, .int .i64 d] w fun e w' => e = .returned (.tuple #[.int .i64 0, .int .i64 3]) ∧ Frm w w' NoB := by
  have hn := (chk_zero HE.out).1
  rw [hX.HN] at hn
  have g2 : IntKind.i64.wrap ((n : Int) - 1) = (n : Int) - 1 := IntWalk.i64_in _ (by omega)
  by_cases h1 : d < 1
  · have g1 : decide (d < 1) = true := decide_eq_true h1
    clear hd
    go_enter Try.func13, Try.ntmps13
    go_wp2_with (first | (go_at_call 23; (with_reducible refine (check_b HE hX).mono ?_); rintro e x1 ⟨rfl, f1⟩))
    go_ret2
    exact ⟨rfl, f1⟩
  · have g1 : decide (d < 1) = false := decide_eq_false h1
    have h3 : (n : Int) - 1 < d := by omega
    have g3 : decide ((n : Int) - 1 < d) = true := decide_eq_true h3
    clear hd
    go_enter Try.func13, Try.ntmps13
    go_wp2_with (first | (go_at_call 23; (with_reducible refine (check_b HE hX).mono ?_); rintro e x1 ⟨rfl, f1⟩))
    go_ret2
    exact ⟨rfl, f1⟩
end
section
variable {A : Option Addr} {n c B : Nat} {xs ps : List Int} {d e0 v0 : Int} {w : World}
/-- Range of the program. -/
theorem range_s (HE : Hid (rgE xs d = e0)) (HV : Hid (rgV xs d = v0)) (hX : LI w A n B xs) (hc : n ≤ c) :
    Calls Try.prog 13 #[.slice A n c, .int .i64 d] w fun e w' => e = .returned (.tuple #[.int .i64 v0, .int .i64 e0]) ∧ Frm w w' NoB := by
  rw [← HE.out, ← HV.out]
  by_cases h0 : chk xs = 0
  · by_cases h1 : d < 1 ∨ (xs.length : Int) - 1 < d
    · have he : rgE xs d = 3 := by unfold rgE; rw [if_neg (not_not_intro h0), if_pos h1]
      unfold rgV
      rw [he, if_neg (by decide)]
      exact range_rng A n c B xs d w hX h0 (by rw [← hX.HN]; exact h1)
    · obtain ⟨q, rfl⟩ : ∃ q : Nat, d = (q : Int) := ⟨d.toNat, by omega⟩
      have hN := hX.HN
      have he : rgE xs (q : Int) = 0 := by unfold rgE; rw [if_neg (not_not_intro h0), if_neg h1]
      unfold rgV
      rw [he, if_pos rfl, Int.toNat_natCast, hN]
      obtain ⟨b, o, rfl, _, _⟩ := hX.hA.pos (by omega)
      exact range_ok b o n c q B xs w hX hc h0 (by omega) (by omega)
  · have he : rgE xs d = chk xs := by unfold rgE; rw [if_pos h0]
    unfold rgV
    rw [he, if_neg h0]
    exact range_chk A n c B xs d w hX (chk xs) rfl h0
/-- Detrend's error, and its list. -/
noncomputable def dtE (xs : List Int) : Int := if chk xs ≠ 0 then chk xs else if xs.length < 2 then 14 else 0
noncomputable def dtR (xs : List Int) : List Int := if dtE xs = 0 then dtV xs else []
theorem detrend_s (HE : Hid (dtE xs = e0)) (HV : Hid (dtR xs = ps)) (hX : LI w A n B xs) :
    Calls Try.prog 20 #[.slice A n c] w fun e w' => ∃ A' c', e = .returned (.tuple #[.slice A' ps.length c', .int .i64 e0]) ∧ LI w' A' ps.length w'.heap.size ps ∧
      (ps = [] ∨ ∃ g, A' = some ⟨g, 0, none⟩ ∧ w.heap.size ≤ g ∧ Blk w' g 3 (cel ps)) ∧ Frm w w' NoB := by
  rw [← HE.out]
  have hpv := HV.out
  by_cases h0 : chk xs = 0
  · by_cases h1 : xs.length < 2
    · have he : dtE xs = 14 := by unfold dtE; rw [if_neg (not_not_intro h0), if_pos h1]
      unfold dtR at hpv
      rw [he, if_neg (by decide)] at hpv
      subst hpv
      rw [he]
      refine (detrend_short A n c B xs w hX h0 (by rw [← hX.HN]; exact h1)).mono ?_
      rintro e w' ⟨rfl, f⟩
      exact ⟨none, 0, rfl, LI.nil _, .inl rfl, f⟩
    · have he : dtE xs = 0 := by unfold dtE; rw [if_neg (not_not_intro h0), if_neg h1]
      unfold dtR at hpv
      rw [he, if_pos rfl] at hpv
      subst hpv
      rw [he, dtV_len, hX.HN]
      have hn := hX.HN
      refine (detrend_ok A n c B xs w hX h0 (by omega)).mono ?_
      rintro e w' ⟨g, rfl, hg, hb, f⟩
      have hl : (dtV xs).length = n := by rw [dtV_len]; exact hX.HN
      exact ⟨_, _, rfl, ⟨hX.hn, hl, (RdI.of_blk hb).more (by have := hb.lt; omega), Nat.le_refl _⟩, .inr ⟨g, rfl, hg, hb⟩, f⟩
  · have he : dtE xs = chk xs := by unfold dtE; rw [if_pos h0]
    unfold dtR at hpv
    rw [he, if_neg h0] at hpv
    subst hpv
    rw [he]
    refine (detrend_chk A n c B xs w hX (chk xs) rfl h0).mono ?_
    rintro e w' ⟨rfl, f⟩
    exact ⟨none, 0, rfl, LI.nil _, .inl rfl, f⟩
theorem eql_li {A2 : Option Addr} {c2 B2 : Nat} (hX : LI w A n B xs) (hY : LI w A2 n B2 xs) :
    Calls Try.prog 19 #[.slice A n c, .slice A2 n c2] w fun e w' => e = .returned (.bool true) ∧ Frm w w' NoB := by
  refine (eql_same A A2 n c c2 B B2 xs xs w (by have := hX.hn; omega) hX.HN hY.HN hX.hA hY.hA hX.hB hY.hB).mono ?_
  rintro e w' ⟨rfl, hf⟩
  exact ⟨by simp, hf⟩
end
end Go.Proofs.Ythpakpljfgmkfaa
