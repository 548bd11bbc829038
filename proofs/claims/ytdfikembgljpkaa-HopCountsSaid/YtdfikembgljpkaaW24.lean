/- HopPasses, walked. -/
import Derived.Test.YtdfikembgljpkaaW23
namespace Go.Proofs.Ytdfikembgljpkaa
open Go.RowKit

theorem pV_le (xs ys : List Int) : (pV xs ys).length ≤ 512 := by
  unfold pV
  split
  · rename_i h
    have := chk_zero h
    rw [deps_len]; omega
  · simp
theorem wV_le (xs ys : List Int) : (wV xs ys).length ≤ 512 := by
  unfold wV
  split
  · rename_i h
    have := chk_zero h
    rw [wts_len]; omega
  · simp
theorem bV_le (xs ys : List Int) : (bV xs ys).length ≤ 512 := by
  unfold bV
  split
  · rename_i h
    have := chk_zero h
    have := bsy_len xs ys xs.length
    omega
  · simp

section
variable {A A2 : Option Addr} {n n2 c c2 B B2 : Nat} {xs ys ps : List Int} {bs : List (Int × Int)} {e0 : Int} {w : World}
theorem pass_s (HE : Hid (chk xs ys 1125899906842624 = e0)) (HV : Hid (pV xs ys = ps)) (hX : LI w A n B xs) (hY : LI w A2 n2 B2 ys) :
    Calls Try.prog 12 #[.slice A n c, .slice A2 n2 c2] w fun e w' => ∃ A' c', e = .returned (.tuple #[.slice A' ps.length c', .int .i64 e0]) ∧ LI w' A' ps.length w'.heap.size ps ∧ Frm w w' NoB := by
  refine (pass_t A A2 n n2 c c2 w.heap.size xs ys w hX.up hY.up).mono ?_
  rw [HE.out, HV.out]
  rintro e w' ⟨v, rfl, ho, hf⟩
  obtain ⟨A', c', rfl, hl⟩ := ho.li (by have := pV_le xs ys; rw [HV.out] at this; omega)
  exact ⟨A', c', rfl, hl, hf⟩
theorem rPass_s (HE : Hid (chk xs ys 1125899906842624 = e0)) (HV : Hid (pV xs ys = ps)) (hX : LI w A n B xs) (hY : LI w A2 n2 B2 ys) :
    Calls Try.prog 13 #[.slice A n c, .slice A2 n2 c2] w fun e w' => ∃ A' c', e = .returned (.tuple #[.slice A' ps.length c', .int .i64 e0]) ∧ LI w' A' ps.length w'.heap.size ps ∧ Frm w w' NoB := by
  refine (rPass_t A A2 n n2 c c2 w.heap.size xs ys w hX.up hY.up).mono ?_
  rw [HE.out, HV.out]
  rintro e w' ⟨v, rfl, ho, hf⟩
  obtain ⟨A', c', rfl, hl⟩ := ho.li (by have := pV_le xs ys; rw [HV.out] at this; omega)
  exact ⟨A', c', rfl, hl, hf⟩
theorem waits_s (HE : Hid (chk xs ys 1125899906842624 = e0)) (HV : Hid (wV xs ys = ps)) (hX : LI w A n B xs) (hY : LI w A2 n2 B2 ys) :
    Calls Try.prog 14 #[.slice A n c, .slice A2 n2 c2] w fun e w' => ∃ A' c', e = .returned (.tuple #[.slice A' ps.length c', .int .i64 e0]) ∧ LI w' A' ps.length w'.heap.size ps ∧ Frm w w' NoB := by
  refine (waits_t A A2 n n2 c c2 w.heap.size xs ys w hX.up hY.up).mono ?_
  rw [HE.out, HV.out]
  rintro e w' ⟨v, rfl, ho, hf⟩
  obtain ⟨A', c', rfl, hl⟩ := ho.li (by have := wV_le xs ys; rw [HV.out] at this; omega)
  exact ⟨A', c', rfl, hl, hf⟩
theorem rWaits_s (HE : Hid (chk xs ys 1125899906842624 = e0)) (HV : Hid (wV xs ys = ps)) (hX : LI w A n B xs) (hY : LI w A2 n2 B2 ys) :
    Calls Try.prog 15 #[.slice A n c, .slice A2 n2 c2] w fun e w' => ∃ A' c', e = .returned (.tuple #[.slice A' ps.length c', .int .i64 e0]) ∧ LI w' A' ps.length w'.heap.size ps ∧ Frm w w' NoB := by
  refine (rWaits_t A A2 n n2 c c2 w.heap.size xs ys w hX.up hY.up).mono ?_
  rw [HE.out, HV.out]
  rintro e w' ⟨v, rfl, ho, hf⟩
  obtain ⟨A', c', rfl, hl⟩ := ho.li (by have := wV_le xs ys; rw [HV.out] at this; omega)
  exact ⟨A', c', rfl, hl, hf⟩
theorem busy_s (HE : Hid (chk xs ys 1125899906842624 = e0)) (HV : Hid (bV xs ys = bs)) (hX : LI w A n B xs) (hY : LI w A2 n2 B2 ys) :
    Calls Try.prog 17 #[.slice A n c, .slice A2 n2 c2] w fun e w' => ∃ A' c', e = .returned (.tuple #[.slice A' bs.length c', .int .i64 e0]) ∧ LV w' A' bs.length w'.heap.size bs ∧ Frm w w' NoB := by
  refine (busy_t A A2 n n2 c c2 w.heap.size xs ys w hX.up hY.up).mono ?_
  rw [HE.out, HV.out]
  rintro e w' ⟨v, rfl, ho, hf⟩
  obtain ⟨A', c', rfl, hl⟩ := OwnV.lv ho (by have := bV_le xs ys; rw [HV.out] at this; omega)
  exact ⟨A', c', rfl, hl, hf⟩
theorem eql_li (hX : LI w A n B xs) (hY : LI w A2 n B2 xs) :
    Calls Try.prog 16 #[.slice A n c, .slice A2 n c2] w fun e w' => e = .returned (.bool true) ∧ Frm w w' NoB := by
  refine (eql_same A A2 n c c2 B B2 xs xs w (by have := hX.hn; omega) hX.HN hY.HN hX.hA hY.hA hX.hB hY.hB).mono ?_
  rintro e w' ⟨rfl, hf⟩
  exact ⟨by simp, hf⟩
end

set_option maxHeartbeats 8000000 in
theorem hopPasses_walk (A : Option Addr) (n c B : Nat) (xs : List Int) (A2 : Option Addr) (n2 c2 B2 : Nat) (ys : List Int) (w : World)
    (H1 : n ≤ 600 → LI w A n B xs) (H2 : n2 ≤ 600 → LI w A2 n2 B2 ys) :
    Calls Try.prog 3 #[.slice A n c, .slice A2 n2 c2] w fun e w' => e = .returned (.bool true) ∧ Frm w w' NoB := by
  obtain ⟨p, hp⟩ : ∃ p, (decide (n ≤ 600) && decide (n2 ≤ 600)) = p := ⟨_, rfl⟩
  have HP := Lib.hid hp
  have hF : Frm w w NoB := Frm.refl w _
  cases p
  · clear hp H1 H2
    go_enter Try.func3, Try.ntmps3
    go_wp2_with (first
      | (go_at_call 10; (with_reducible refine (few_b HP _).mono ?_); rintro e x1 ⟨rfl, rfl⟩)
      | (go_at_call 11; (with_reducible refine (awake_t _).mono ?_); rintro e x1 ⟨rfl, f1⟩; replace hF := hF.trans f1 (fun _ _ h => h); clear f1))
    go_ret
    exact ⟨rfl, hF⟩
  · simp only [Bool.and_eq_true, decide_eq_true_eq] at hp
    have hX := (H1 hp.1).up
    have hY := (H2 hp.2).up
    clear hp H1 H2
    obtain ⟨e0, he⟩ : ∃ e, chk xs ys 1125899906842624 = e := ⟨_, rfl⟩
    obtain ⟨ps, hps⟩ : ∃ e, pV xs ys = e := ⟨_, rfl⟩
    obtain ⟨ws, hws⟩ : ∃ e, wV xs ys = e := ⟨_, rfl⟩
    have HE := Lib.hid he
    have HQ := Lib.hid hps
    have HW := Lib.hid hws
    clear he hps hws
    go_enter Try.func3, Try.ntmps3
    go_wp2_with (first
      | (go_at_call 10; (with_reducible refine (few_b HP _).mono ?_); rintro e x1 ⟨rfl, rfl⟩)
      | (go_at_call 12; (with_reducible refine (pass_s HE HQ hX hY).mono ?_); rintro e x1 ⟨A5, c5, rfl, h5, f1⟩; replace hX := hX.frm f1; replace hY := hY.frm f1; replace hF := hF.trans f1 (fun _ _ h => h); clear f1)
      | (go_at_call 13; (with_reducible refine (rPass_s HE HQ hX hY).mono ?_); rintro e x1 ⟨A7, c7, rfl, h7, f1⟩; replace hX := hX.frm f1; replace hY := hY.frm f1; replace h5 := h5.frm f1; replace hF := hF.trans f1 (fun _ _ h => h); clear f1)
      | (go_at_call 14; (with_reducible refine (waits_s HE HW hX hY).mono ?_); rintro e x1 ⟨A9, c9, rfl, h9, f1⟩; replace hX := hX.frm f1; replace hY := hY.frm f1; replace h5 := h5.frm f1; replace h7 := h7.frm f1; replace hF := hF.trans f1 (fun _ _ h => h); clear f1)
      | (go_at_call 15; (with_reducible refine (rWaits_s HE HW hX hY).mono ?_); rintro e x1 ⟨A11, c11, rfl, h11, f1⟩; replace h5 := h5.frm f1; replace h7 := h7.frm f1; replace h9 := h9.frm f1; replace hF := hF.trans f1 (fun _ _ h => h); clear f1 hX hY)
      | (go_at_call 16; (with_reducible refine (eql_li h5 h7).mono ?_); rintro e x1 ⟨rfl, f1⟩; replace h9 := h9.frm f1; replace h11 := h11.frm f1; replace hF := hF.trans f1 (fun _ _ h => h); clear f1)
      | (go_at_call 16; (with_reducible refine (eql_li h9 h11).mono ?_); rintro e x1 ⟨rfl, f1⟩; replace hF := hF.trans f1 (fun _ _ h => h); clear f1)
      | (go_at_call 11; (with_reducible refine (awake_t _).mono ?_); rintro e x1 ⟨rfl, f1⟩; replace hF := hF.trans f1 (fun _ _ h => h); clear f1))
    go_ret
    exact ⟨rfl, hF⟩
end Go.Proofs.Ytdfikembgljpkaa
