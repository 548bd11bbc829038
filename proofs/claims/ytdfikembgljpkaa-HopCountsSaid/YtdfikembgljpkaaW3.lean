/- Backlog of the reference; few. -/
import Derived.Test.YtdfikembgljpkaaW2
namespace Go.Proofs.Ytdfikembgljpkaa
open Go.RowKit

section
variable (A A2 : Option Addr) (n n2 c c2 B : Nat) (xs ys : List Int) (lim : Int) (w : World)
set_option maxHeartbeats 8000000 in
theorem rbacklog_t (hX : LI w A n B xs) (hY : LI w A2 n2 B ys) :
    Calls Try.prog 21 #[.slice A n c, .slice A2 n2 c2, .int .i64 lim] w fun e w' => e = .returned (.int .i64 (blg xs ys lim (min n n2) : Nat)) ∧ Frm w w' NoB := by
  have hF : Frm w w NoB := Frm.refl w _
  have HX := Lib.hid hX.HN
  have HY := Lib.hid hY.HN
  have hA := hX.hA
  have hA2 := hY.hA
  have hn := hX.hn
  have hn2 := hY.hn
  clear hX hY
  go_enter Try.func21, Try.ntmps21
  go_wp2
  go_loopw [7, 8] (fun s i wr => ∃ k : Nat, k ≤ min n n2 ∧ i = .int .i64 k ∧ s = .int .i64 (blg xs ys lim k : Nat) ∧ w = wr) (fun _ i _ => min n n2 - (intOf i).toNat)
  case atStart => exact ⟨0, Nat.zero_le _, rfl, rfl, by trivial⟩
  case round =>
    obtain ⟨k, hk, rfl, rfl, rfl⟩ := hrel
    by_cases hl1 : k < n
    · by_cases hl2 : k < n2
      · have hlt : k + 1 ≤ min n n2 := by omega
        obtain ⟨b, o, rfl, _, hcell⟩ := hA.pos (by rw [HX.out]; omega); obtain ⟨b2, o2, rfl, _, hcell2⟩ := hA2.pos (by rw [HY.out]; omega); have q1 := hcell k (by rw [HX.out]; omega); have q2 := hcell2 k (by rw [HY.out]; omega); have hs : blg xs ys lim (k + 1) = blg xs ys lim k + (if xs.getD k 0 ≤ lim ∧ lim < ys.getD k 0 then 1 else 0) := rfl; obtain ⟨x, hx⟩ : ∃ x, x = xs.getD k 0 := ⟨_, rfl⟩; obtain ⟨y, hy⟩ : ∃ y, y = ys.getD k 0 := ⟨_, rfl⟩; rw [← hx] at q1 hs; rw [← hy] at q2 hs; clear hx hy hcell hcell2 hA hA2; have hb0 := blg_le xs ys lim k; obtain ⟨S, hS⟩ : ∃ S, S = blg xs ys lim k := ⟨_, rfl⟩; rw [← hS] at hs hb0 ⊢; clear hS; have hk0 : (0 : Int) ≤ (k : Int) := Int.natCast_nonneg _; have hk1 : (k : Int) < (n : Int) := (by omega); have hk2 : (k : Int) < (n2 : Int) := (by omega)
        (by_cases h1 : x ≤ lim; (by_cases h2 : lim < y; (have Hs := Lib.hid (hs.trans (by rw [if_pos ⟨h1, h2⟩])); clear hs; go_wp2; go_roundw; (case rel => exact ⟨k + 1, by omega, by go_num, by rw [Hs.out]; go_num, by trivial⟩); (case measure => simp [intOf]; omega)); (have Hs := Lib.hid (hs.trans (by rw [if_neg (fun h => h2 h.2)])); clear hs; go_wp2; go_roundw; (case rel => exact ⟨k + 1, by omega, by go_num, by rw [Hs.out, Nat.add_zero], by trivial⟩); (case measure => simp [intOf]; omega))); (have Hs := Lib.hid (hs.trans (by rw [if_neg (fun h => h1 h.1)])); clear hs; go_wp2; go_roundw; (case rel => exact ⟨k + 1, by omega, by go_num, by rw [Hs.out, Nat.add_zero], by trivial⟩); (case measure => simp [intOf]; omega)))
      · have HK := Lib.hid (show k = min n n2 by omega)
        clear hA hA2
        go_wp2
        go_ret
        exact ⟨by rw [← HK.out]; rfl, hF⟩
    · have HK := Lib.hid (show k = min n n2 by omega)
      clear hA hA2
      go_wp2
      go_ret
      exact ⟨by rw [← HK.out]; rfl, hF⟩
end

theorem few_t (A A2 : Option Addr) (n n2 c c2 : Nat) (w : World) :
    Calls Try.prog 10 #[.slice A n c, .slice A2 n2 c2] w fun e w' => e = .returned (.bool (decide (n ≤ 600) && decide (n2 ≤ 600))) ∧ w = w' := by
  by_cases h1 : (n : Int) ≤ 600
  · by_cases h2 : (n2 : Int) ≤ 600
    · have e : (decide (n ≤ 600) && decide (n2 ≤ 600)) = true := by simp; omega
      rw [e]
      clear e
      go_enter Try.func10, Try.ntmps10
      go_wp2
      go_ret
      exact ⟨rfl, rfl⟩
    · have e : (decide (n ≤ 600) && decide (n2 ≤ 600)) = false := by simp; omega
      rw [e]
      clear e
      go_enter Try.func10, Try.ntmps10
      go_wp2
      go_ret
      exact ⟨rfl, rfl⟩
  · have e : (decide (n ≤ 600) && decide (n2 ≤ 600)) = false := by simp; omega
    rw [e]
    clear e
    go_enter Try.func10, Try.ntmps10
    go_wp2
    go_ret
    exact ⟨rfl, rfl⟩
theorem few_b {A A2 : Option Addr} {n n2 c c2 : Nat} {p : Bool} (H : Hid ((decide (n ≤ 600) && decide (n2 ≤ 600)) = p)) (w : World) :
    Calls Try.prog 10 #[.slice A n c, .slice A2 n2 c2] w fun e w' => e = .returned (.bool p) ∧ w = w' := by
  have k := few_t A A2 n n2 c c2 w
  rw [H.out] at k
  exact k
end Go.Proofs.Ytdfikembgljpkaa
