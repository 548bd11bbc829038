/- Pass of the program and of the reference. -/
import Derived.Test.YtdfikembgljpkaaW7
namespace Go.Proofs.Ytdfikembgljpkaa
open Go.RowKit

theorem dl_bounds {xs ys : List Int} {lim : Int} {n : Nat} (h : oks xs ys lim n) (hl : 0 ≤ lim) : ∀ k, k ≤ n → 0 ≤ dl xs ys k ∧ dl xs ys k ≤ lim + 10000000000 * k
  | 0, _ => ⟨by show (0 : Int) ≤ 0; decide, by show (0 : Int) ≤ _; omega⟩
  | k + 1, hk => by
    have ih := dl_bounds h hl k (by omega)
    obtain ⟨a1, a2, a3, a4⟩ := h k (by omega)
    have e : dl xs ys (k + 1) = mx (xs.getD k 0) (dl xs ys k) + ys.getD k 0 := rfl
    rw [e]
    unfold mx
    split <;> omega
theorem fits_of {xs ys : List Int} {lim : Int} {n : Nat} (h : oks xs ys lim n) (hl : 0 ≤ lim) (hl2 : lim ≤ 9000000000000000000) (hn : n ≤ 512) : fits xs ys n := fun k hk => by
  have b := dl_bounds h hl (k + 1) hk
  have e : dl xs ys (k + 1) = mx (xs.getD k 0) (dl xs ys k) + ys.getD k 0 := rfl
  rw [← e]
  exact IntWalk.i64_in _ (by omega)

/-- The list that Pass returns. -/
noncomputable def pV (xs ys : List Int) : List Int := if chk xs ys 1125899906842624 = 0 then deps xs ys xs.length else []

section
variable {A A2 : Option Addr} {n n2 c c2 B : Nat} {xs ys : List Int} {lim e0 : Int} {w : World}
theorem check_b (H : Hid (chk xs ys lim = e0)) (hX : LI w A n B xs) (hY : LI w A2 n2 B ys) :
    Calls Try.prog 24 #[.slice A n c, .slice A2 n2 c2, .int .i64 lim] w fun e w' => e = .returned (.int .i64 e0) ∧ Frm w w' NoB := by
  have k := check_t A A2 n n2 c c2 B xs ys lim w hX hY
  rw [H.out] at k
  exact k
theorem rcheck_b (H : Hid (chk xs ys lim = e0)) (hX : LI w A n B xs) (hY : LI w A2 n2 B ys) :
    Calls Try.prog 26 #[.slice A n c, .slice A2 n2 c2, .int .i64 lim] w fun e w' => e = .returned (.int .i64 e0) ∧ Frm w w' NoB := by
  have k := rcheck_t A A2 n n2 c c2 B xs ys lim w hX hY
  rw [H.out] at k
  exact k
theorem dep_b (hX : LI w A n B xs) (hY : LI w A2 n B ys) (hn : n ≤ 512) (HF : Hid (fits xs ys n)) :
    Calls Try.prog 25 #[.slice A n c, .slice A2 n c2] w fun e w' => ∃ v, e = .returned v ∧ OwnI w' w.heap.size v n (deps xs ys n) ∧ Frm w w' NoB := dep_t A A2 n c c2 B xs ys w hX hY hn HF.out
theorem rpass_b (hX : LI w A n B xs) (hY : LI w A2 n B ys) (hn : n ≤ 512) (HF : Hid (fits xs ys n)) :
    Calls Try.prog 27 #[.slice A n c, .slice A2 n c2] w fun e w' => ∃ v, e = .returned v ∧ OwnI w' w.heap.size v n (deps xs ys n) ∧ Frm w w' NoB := rpass_t A A2 n c c2 B xs ys w hX hY hn HF.out
theorem OwnI.lower {B B' m : Nat} {v : Value} {ks : List Int} (h : OwnI w B v m ks) (hb : B' ≤ B) : OwnI w B' v m ks := by
  refine ⟨h.1, ?_⟩
  rcases h.2 with h | ⟨g, cap, cur, e, h1, h2⟩
  · exact .inl h
  · exact .inr ⟨g, cap, cur, e, Nat.le_trans hb h1, h2⟩
end

section
variable (A A2 : Option Addr) (n n2 c c2 B : Nat) (xs ys : List Int) (w : World)
set_option maxHeartbeats 8000000 in
theorem pass_t (hX : LI w A n B xs) (hY : LI w A2 n2 B ys) :
    Calls Try.prog 12 #[.slice A n c, .slice A2 n2 c2] w fun e w' => ∃ v, e = .returned (.tuple #[v, .int .i64 (chk xs ys 1125899906842624)]) ∧ OwnI w' w.heap.size v (pV xs ys).length (pV xs ys) ∧ Frm w w' NoB := by
  obtain ⟨e0, he⟩ : ∃ e, chk xs ys 1125899906842624 = e := ⟨_, rfl⟩
  by_cases h0 : e0 = 0
  · subst h0
    obtain ⟨h1, h2, h3, h4⟩ := chk_zero he
    have hp : pV xs ys = deps xs ys n := by unfold pV; rw [if_pos he, hX.HN]
    have hnn : n = n2 := by rw [← hX.HN, ← hY.HN]; exact h1
    subst hnn
    have HF : Hid (fits xs ys n) := fits_of (lim := 1125899906842624) (by rw [← hX.HN]; exact h3) (by decide) (by decide) (by rw [← hX.HN]; exact h2)
    have Hn : Hid (n ≤ 512) := by rw [← hX.HN]; exact h2
    rw [he, hp, deps_len]
    have HE := Lib.hid he
    clear he hp h1 h2 h3 h4
    go_enter Try.func12, Try.ntmps12
    (go_wp2_with (first | (go_at_call 24; (with_reducible refine (check_b HE (by assumption) (by assumption)).mono ?_); rintro e x1 ⟨rfl, f1⟩; replace hX := hX.frm f1; replace hY := hY.frm f1) | (go_at_call 25; (with_reducible refine (dep_b hX hY Hn.out HF).mono ?_); rintro e x2 ⟨v, rfl, ho, f2⟩)))
    go_ret2
    exact ⟨_, rfl, ho.lower f1.size, f1.trans f2 (fun _ _ h => h)⟩
  · have hp : pV xs ys = [] := by unfold pV; rw [he, if_neg h0]
    rw [he, hp]
    have HE := Lib.hid he
    have hb : (e0 != 0) = true := by rw [bne_iff_ne]; exact h0
    clear he hp h0
    go_enter Try.func12, Try.ntmps12
    go_wp2_with (first | (go_at_call 24; (with_reducible refine (check_b HE hX hY).mono ?_); rintro e x1 ⟨rfl, f1⟩))
    go_ret2
    exact ⟨_, rfl, World.ownsRow_nil _ _ _ _, f1⟩
set_option maxHeartbeats 8000000 in
theorem rPass_t (hX : LI w A n B xs) (hY : LI w A2 n2 B ys) :
    Calls Try.prog 13 #[.slice A n c, .slice A2 n2 c2] w fun e w' => ∃ v, e = .returned (.tuple #[v, .int .i64 (chk xs ys 1125899906842624)]) ∧ OwnI w' w.heap.size v (pV xs ys).length (pV xs ys) ∧ Frm w w' NoB := by
  obtain ⟨e0, he⟩ : ∃ e, chk xs ys 1125899906842624 = e := ⟨_, rfl⟩
  by_cases h0 : e0 = 0
  · subst h0
    obtain ⟨h1, h2, h3, h4⟩ := chk_zero he
    have hp : pV xs ys = deps xs ys n := by unfold pV; rw [if_pos he, hX.HN]
    have hnn : n = n2 := by rw [← hX.HN, ← hY.HN]; exact h1
    subst hnn
    have HF : Hid (fits xs ys n) := fits_of (lim := 1125899906842624) (by rw [← hX.HN]; exact h3) (by decide) (by decide) (by rw [← hX.HN]; exact h2)
    have Hn : Hid (n ≤ 512) := by rw [← hX.HN]; exact h2
    rw [he, hp, deps_len]
    have HE := Lib.hid he
    clear he hp h1 h2 h3 h4
    go_enter Try.func13, Try.ntmps13
    (go_wp2_with (first | (go_at_call 26; (with_reducible refine (rcheck_b HE (by assumption) (by assumption)).mono ?_); rintro e x1 ⟨rfl, f1⟩; replace hX := hX.frm f1; replace hY := hY.frm f1) | (go_at_call 27; (with_reducible refine (rpass_b hX hY Hn.out HF).mono ?_); rintro e x2 ⟨v, rfl, ho, f2⟩)))
    go_ret2
    exact ⟨_, rfl, ho.lower f1.size, f1.trans f2 (fun _ _ h => h)⟩
  · have hp : pV xs ys = [] := by unfold pV; rw [he, if_neg h0]
    rw [he, hp]
    have HE := Lib.hid he
    have hb : (e0 != 0) = true := by rw [bne_iff_ne]; exact h0
    clear he hp h0
    go_enter Try.func13, Try.ntmps13
    go_wp2_with (first | (go_at_call 26; (with_reducible refine (rcheck_b HE hX hY).mono ?_); rintro e x1 ⟨rfl, f1⟩))
    go_ret2
    exact ⟨_, rfl, World.ownsRow_nil _ _ _ _, f1⟩
end
end Go.Proofs.Ytdfikembgljpkaa
