/- HopChains, walked. -/
import Derived.Test.YtdfikembgljpkaaW29
namespace Go.Proofs.Ytdfikembgljpkaa
open Go.RowKit
set_option maxHeartbeats 8000000 in
theorem hopChains_walk (A : Option Addr) (n c B : Nat) (xs : List Int) (S : Option Addr) (m d B2 : Nat) (ss : List (List Int)) (w : World)
    (H1 : n ≤ 600 → LI w A n B xs) (hc0 : A = none → c = 0) (hm : ss.length = m) (HS : RdS w B2 S ss) (hB2 : B2 ≤ w.heap.size) :
    Calls Try.prog 6 #[.slice A n c, .slice S m d] w fun e w' => e = .returned (.bool true) ∧ Frm w w' NoB := by
  have hF : Frm w w NoB := Frm.refl w _
  by_cases h20 : 20 < m
  · clear H1 hc0 HS
    have hi : (20 : Int) < (m : Int) := by omega
    go_enter Try.func6, Try.ntmps6
    go_wp2_with (first | (go_at_call 11; (with_reducible refine (awake_t _).mono ?_); rintro e x1 ⟨rfl, f1⟩; replace hF := hF.trans f1 (fun _ _ h => h); clear f1))
    go_ret
    exact ⟨rfl, hF⟩
  · obtain ⟨p, hp⟩ : ∃ p, (decide (n ≤ 600) && decide (0 ≤ 600)) = p := ⟨_, rfl⟩
    have HP := Lib.hid hp
    have hi : ¬ (20 : Int) < (m : Int) := by omega
    cases p
    · clear hp H1 hc0 HS
      go_enter Try.func6, Try.ntmps6
      go_wp2_with (first | (go_at_call 10; (with_reducible refine (few_b HP _).mono ?_); rintro e x1 ⟨rfl, rfl⟩) | (go_at_call 11; (with_reducible refine (awake_t _).mono ?_); rintro e x1 ⟨rfl, f1⟩; replace hF := hF.trans f1 (fun _ _ h => h); clear f1))
      go_ret
      exact ⟨rfl, hF⟩
    · simp only [Bool.and_eq_true, decide_eq_true_eq] at hp
      have hn := hp.1
      have hX := (H1 hp.1).up
      clear hp H1
      go_enter Try.func6, Try.ntmps6
      go_wp2_with (first | (go_at_call 10; (with_reducible refine (few_b HP _).mono ?_); rintro e x1 ⟨rfl, rfl⟩))
      go_loopw [22, 6] (fun i _ wr => ∃ k : Nat, k ≤ m ∧ i = .int .i64 k ∧ Hid (∀ j, j < k → (ss.getD j []).length ≤ 600) ∧ w = wr) (fun i _ _ => m - (intOf i).toNat)
      case atStart => exact ⟨0, Nat.zero_le _, rfl, fun j h => by omega, rfl⟩
      case round =>
        obtain ⟨k, hk, rfl, HK, rfl⟩ := hrel
        by_cases hlt : k < m
        · obtain ⟨b, o, rfl, _, hc⟩ := HS.pos (by omega)
          obtain ⟨Aj, cj, q1, _⟩ := hc k (by omega)
          obtain ⟨nj, hnj⟩ : ∃ nj, (ss.getD k []).length = nj := ⟨_, rfl⟩
          rw [hnj] at q1
          obtain ⟨q, hq⟩ : ∃ q, (decide (nj ≤ 600) && decide (0 ≤ 600)) = q := ⟨_, rfl⟩
          have HQ := Lib.hid hq
          have hk0 : (0 : Int) ≤ (k : Int) := Int.natCast_nonneg _
          have hk1 : (k : Int) < (m : Int) := by omega
          cases q
          · clear hq hc hnj HS hX
            go_wp2_with (first | (go_at_call 10; (with_reducible refine (few_b HQ _).mono ?_); rintro e x1 ⟨rfl, rfl⟩) | (go_at_call 11; (with_reducible refine (awake_t _).mono ?_); rintro e x1 ⟨rfl, f1⟩; replace hF := hF.trans f1 (fun _ _ h => h); clear f1))
            go_ret
            exact ⟨rfl, hF⟩
          · simp only [Bool.and_eq_true, decide_eq_true_eq] at hq
            have HK2 : Hid (∀ j, j < k + 1 → (ss.getD j []).length ≤ 600) := fun j hj => by
              rcases Nat.lt_or_ge j k with h | h
              · exact HK.out j h
              · obtain rfl : j = k := by omega
                rw [hnj]; exact hq.1
            clear hq hc hnj hX
            go_wp2_with (first | (go_at_call 10; (with_reducible refine (few_b HQ _).mono ?_); rintro e x1 ⟨rfl, rfl⟩))
            go_roundw
            case rel => exact ⟨k + 1, by omega, by go_num, HK2, by trivial⟩
            case measure => simp [intOf]; omega
        · have hkm : k = m := by omega
          subst hkm
          have hS := HS.ls hm (by omega) hB2 HK.out
          obtain ⟨e0, he⟩ : ∃ e, chE xs ss = e := ⟨_, rfl⟩
          obtain ⟨ps, hps⟩ : ∃ e, chV xs ss = e := ⟨_, rfl⟩
          have HE := Lib.hid he
          have HQ := Lib.hid hps
          clear he hps HS
          go_wp2_with (first
            | (go_at_call 22; (with_reducible refine (chain_s HE HQ hX hS).mono ?_); rintro e x1 ⟨A7, c7, rfl, h7, f1⟩; replace hX := hX.frm f1; replace hS := hS.frm f1; replace hF := hF.trans f1 (fun _ _ h => h); clear f1)
            | (go_at_call 23; (with_reducible refine (rchain_s HE HQ hX hn hS hc0).mono ?_); rintro e x1 ⟨A9, c9, rfl, h9, f1⟩; replace h7 := h7.frm f1; replace hF := hF.trans f1 (fun _ _ h => h); clear f1 hX hS)
            | (go_at_call 16; (with_reducible refine (eql_li h7 h9).mono ?_); rintro e x1 ⟨rfl, f1⟩; replace hF := hF.trans f1 (fun _ _ h => h); clear f1 h7 h9)
            | (go_at_call 11; (with_reducible refine (awake_t _).mono ?_); rintro e x1 ⟨rfl, f1⟩; replace hF := hF.trans f1 (fun _ _ h => h); clear f1))
          go_ret
          exact ⟨rfl, hF⟩
end Go.Proofs.Ytdfikembgljpkaa
