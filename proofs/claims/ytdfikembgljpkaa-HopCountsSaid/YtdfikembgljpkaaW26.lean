/- HopBusies, walked. -/
import Derived.Test.YtdfikembgljpkaaW25
namespace Go.Proofs.Ytdfikembgljpkaa
open Go.RowKit

theorem rBusy_s {A A2 : Option Addr} {n n2 c c2 B B2 : Nat} {xs ys : List Int} {bs : List (Int × Int)} {e0 : Int} {w : World} (HE : Hid (chk xs ys 1125899906842624 = e0)) (HV : Hid (bV xs ys = bs)) (hX : LI w A n B xs) (hY : LI w A2 n2 B2 ys) :
    Calls Try.prog 18 #[.slice A n c, .slice A2 n2 c2] w fun e w' => ∃ A' c', e = .returned (.tuple #[.slice A' bs.length c', .int .i64 e0]) ∧ LV w' A' bs.length w'.heap.size bs ∧ Frm w w' NoB := by
  refine (rBusy_t A A2 n n2 c c2 w.heap.size xs ys w hX.up hY.up).mono ?_
  rw [HE.out, HV.out]
  rintro e w' ⟨v, rfl, ho, hf⟩
  obtain ⟨A', c', rfl, hl⟩ := OwnV.lv ho (by have := bV_le xs ys; rw [HV.out] at this; omega)
  exact ⟨A', c', rfl, hl, hf⟩

set_option maxHeartbeats 8000000 in
theorem hopBusies_walk (A : Option Addr) (n c B : Nat) (xs : List Int) (A2 : Option Addr) (n2 c2 B2 : Nat) (ys : List Int) (w : World)
    (H1 : n ≤ 600 → LI w A n B xs) (H2 : n2 ≤ 600 → LI w A2 n2 B2 ys) :
    Calls Try.prog 4 #[.slice A n c, .slice A2 n2 c2] w fun e w' => e = .returned (.bool true) ∧ Frm w w' NoB := by
  obtain ⟨p, hp⟩ : ∃ p, (decide (n ≤ 600) && decide (n2 ≤ 600)) = p := ⟨_, rfl⟩
  have HP := Lib.hid hp
  have hF : Frm w w NoB := Frm.refl w _
  cases p
  · clear hp H1 H2
    go_enter Try.func4, Try.ntmps4
    go_wp2_with (first
      | (go_at_call 10; (with_reducible refine (few_b HP _).mono ?_); rintro e x1 ⟨rfl, rfl⟩)
      | (go_at_call 11; (with_reducible refine (awake_t _).mono ?_); rintro e x1 ⟨rfl, f1⟩; replace hF := hF.trans f1 (fun _ _ h => h); clear f1))
    go_ret
    exact ⟨rfl, hF⟩
  · simp only [Bool.and_eq_true, decide_eq_true_eq] at hp
    have hX := (H1 hp.1).up
    have hY := (H2 hp.2).up
    clear hp H1 H2
    obtain ⟨e0, he⟩ : ∃ e, chk xs ys 1125899906842624 = e := ⟨_, rfl⟩
    obtain ⟨bs, hbs⟩ : ∃ e, bV xs ys = e := ⟨_, rfl⟩
    have HE := Lib.hid he
    have HQ := Lib.hid hbs
    clear he hbs
    go_enter Try.func4, Try.ntmps4
    go_wp2_with (first
      | (go_at_call 10; (with_reducible refine (few_b HP _).mono ?_); rintro e x1 ⟨rfl, rfl⟩)
      | (go_at_call 17; (with_reducible refine (busy_s HE HQ hX hY).mono ?_); rintro e x1 ⟨A5, c5, rfl, h5, f1⟩; replace hX := hX.frm f1; replace hY := hY.frm f1; replace hF := hF.trans f1 (fun _ _ h => h); clear f1)
      | (go_at_call 18; (with_reducible refine (rBusy_s HE HQ hX hY).mono ?_); rintro e x1 ⟨A7, c7, rfl, h7, f1⟩; replace h5 := h5.frm f1; replace hF := hF.trans f1 (fun _ _ h => h); clear f1 hX hY)
      | (go_at_call 19; (with_reducible refine (eqv_same _ _ _ _ _ _ _ _ _ h5 h7).mono ?_); rintro e x1 ⟨rfl, f1⟩; replace hF := hF.trans f1 (fun _ _ h => h); clear f1 h5 h7)
      | (go_at_call 11; (with_reducible refine (awake_t _).mono ?_); rintro e x1 ⟨rfl, f1⟩; replace hF := hF.trans f1 (fun _ _ h => h); clear f1))
    go_ret
    exact ⟨rfl, hF⟩
end Go.Proofs.Ytdfikembgljpkaa
