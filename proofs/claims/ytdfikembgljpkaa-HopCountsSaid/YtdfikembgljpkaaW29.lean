/- HopChains, walked. -/
import Derived.Test.YtdfikembgljpkaaW28
import Derived.Test.YtdfikembgljpkaaOpen
namespace Go.Proofs.Ytdfikembgljpkaa
open Go.RowKit

theorem chE_ref {xs : List Int} {ss : List (List Int)} (h1 : ¬ 16 < ss.length) (h2 : ss.length ≠ 0) : chE xs ss = ferr big2 xs ss ss.length := by
  unfold chE
  rw [if_neg h1, if_neg h2]
  exact ferr_lim (by decide) (by decide) _ (by omega)
section
variable {A S : Option Addr} {n m c d B B2 : Nat} {xs ps : List Int} {ss : List (List Int)} {e0 : Int} {w : World}
/-- Chain of the reference. -/
theorem rchain_s (HE : Hid (chE xs ss = e0)) (HV : Hid (chV xs ss = ps)) (hX : LI w A n B xs) (hn : n ≤ 600) (hS : LS w S m B2 ss) (hc0 : A = none → c = 0) :
    Calls Try.prog 23 #[.slice A n c, .slice S m d] w fun e w' => ∃ A' c', e = .returned (.tuple #[.slice A' ps.length c', .int .i64 e0]) ∧ LI w' A' ps.length w'.heap.size ps ∧ Frm w w' NoB := by
  have hm := hS.HN
  by_cases h1 : 16 < m
  · have he : e0 = 6 := by rw [← HE.out]; unfold chE; rw [if_pos (by omega)]
    have hp : ps = [] := by rw [← HV.out]; unfold chV; rw [HE.out, he, if_neg (by decide)]
    subst he hp
    refine (rchain_many A S n m c d w h1).mono ?_
    rintro e w' ⟨rfl, f⟩
    exact ⟨none, 0, rfl, LI.nil _, f⟩
  · by_cases h2 : m = 0
    · subst h2
      have he : chk xs (zs n) 1125899906842624 = e0 := by rw [← HE.out, ← hX.HN]; unfold chE; rw [if_neg (by omega), if_pos hm]
      by_cases h0 : e0 = 0
      · subst h0
        have hp : ps = xs := by rw [← HV.out]; unfold chV; rw [HE.out, if_pos rfl, hm]; rfl
        subst hp
        refine (rchain_zero A S n c d w.heap.size _ w hX.up hn hc0 he).mono ?_
        rintro e w' ⟨A', c', rfl, hl, f⟩
        rw [hX.HN]
        exact ⟨A', c', rfl, hl, f⟩
      · have hp : ps = [] := by rw [← HV.out]; unfold chV; rw [HE.out, if_neg h0]
        subst hp
        refine (rchain_bad A S n c d w.heap.size xs w hX.up e0 he h0).mono ?_
        rintro e w' ⟨rfl, f⟩
        exact ⟨none, 0, rfl, LI.nil _, f⟩
    · have he : e0 = ferr big2 xs ss m := by rw [← HE.out, chE_ref (by omega) (by omega), hm]
      have hp : ps = if ferr big2 xs ss m = 0 then arrk xs ss m else [] := by rw [← HV.out]; unfold chV; rw [HE.out, he, hm]
      refine (rchain_in A S n m c d w.heap.size xs ss w hX.up hn hS.up (by omega) (by omega) hc0).mono ?_
      rintro e w' ⟨v, rfl, ⟨A', n', c', B', rfl, hl⟩, f⟩
      rw [← hp] at hl
      obtain rfl := hl.HN
      exact ⟨A', c', by rw [he], hl.up, f⟩
theorem RdS.ls (h : RdS w B S ss) (hm : ss.length = m) (h20 : m ≤ 20) (hB : B ≤ w.heap.size) (hall : ∀ j, j < m → (ss.getD j []).length ≤ 600) : LS w S m B ss :=
  ⟨by omega, hm, fun hp => by
    rcases h with h | ⟨b, o, e, hb, hc⟩
    · subst h; simp at hm; omega
    · refine ⟨b, o, e, hb, fun j hj => ?_⟩
      obtain ⟨Aj, cj, q1, q2⟩ := hc j (by omega)
      exact ⟨Aj, cj, q1, ⟨by have := hall j hj; omega, rfl, q2, hB⟩⟩, hB⟩
theorem RdS.pos (h : RdS w B S ss) (hp : 0 < ss.length) : ∃ b o, S = some ⟨b, o, none⟩ ∧ b < B ∧ ∀ j, j < ss.length → ∃ Aj cj, w.cell? ⟨b, o + j, none⟩ = some (.slice Aj (ss.getD j []).length cj) ∧ RdI w B Aj (ss.getD j []) := by
  rcases h with h | h
  · subst h; simp at hp
  · exact h
end
end Go.Proofs.Ytdfikembgljpkaa
