/- HopBacklogs, walked. -/
import Derived.Test.YtdfikembgljpkaaW22
namespace Go.Proofs.Ytdfikembgljpkaa
open Go.RowKit
set_option maxHeartbeats 8000000 in
theorem hopBacklogs_walk (A : Option Addr) (n c B : Nat) (xs : List Int) (A2 : Option Addr) (n2 c2 B2 : Nat) (ys : List Int) (lim : Int) (w : World)
    (H1 : n ≤ 600 → LI w A n B xs) (H2 : n2 ≤ 600 → LI w A2 n2 B2 ys) :
    Calls Try.prog 5 #[.slice A n c, .slice A2 n2 c2, .int .i64 lim] w fun e w' => e = .returned (.bool true) ∧ Frm w w' NoB := by
  obtain ⟨p, hp⟩ : ∃ p, (decide (n ≤ 600) && decide (n2 ≤ 600)) = p := ⟨_, rfl⟩
  have HP := Lib.hid hp
  cases p
  · clear hp H1 H2
    go_enter Try.func5, Try.ntmps5
    go_wp2_with (first
      | (go_at_call 10; (with_reducible refine (few_b HP _).mono ?_); rintro e x1 ⟨rfl, rfl⟩))
    go_ret
    exact ⟨rfl, Frm.refl _ _⟩
  · simp only [Bool.and_eq_true, decide_eq_true_eq] at hp
    have hX := (H1 hp.1).up
    have hY := (H2 hp.2).up
    clear hp H1 H2
    have hF : Frm w w NoB := Frm.refl w _
    go_enter Try.func5, Try.ntmps5
    go_wp2_with (first
      | (go_at_call 10; (with_reducible refine (few_b HP _).mono ?_); rintro e x1 ⟨rfl, rfl⟩)
      | (go_at_call 20; (with_reducible refine (backlog_t _ _ _ _ _ _ _ _ _ _ _ hX hY).mono ?_); rintro e x1 ⟨rfl, f1⟩; replace hX := hX.frm f1; replace hY := hY.frm f1; replace hF := hF.trans f1 (fun _ _ h => h); clear f1)
      | (go_at_call 21; (with_reducible refine (rbacklog_t _ _ _ _ _ _ _ _ _ _ _ hX hY).mono ?_); rintro e x1 ⟨rfl, f1⟩; replace hF := hF.trans f1 (fun _ _ h => h); clear f1 hX hY)
      | (go_at_call 11; (with_reducible refine (awake_t _).mono ?_); rintro e x1 ⟨rfl, f1⟩; replace hF := hF.trans f1 (fun _ _ h => h); clear f1))
    go_ret
    exact ⟨rfl, hF⟩
end Go.Proofs.Ytdfikembgljpkaa
