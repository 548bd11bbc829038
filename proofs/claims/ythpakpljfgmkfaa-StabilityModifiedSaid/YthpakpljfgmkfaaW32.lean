/- StabilityModified, walked. -/
import Derived.Test.YthpakpljfgmkfaaW31
namespace Go.Proofs.Ythpakpljfgmkfaa
open Go.RowKit

set_option maxHeartbeats 8000000 in
theorem stabilityModified_walk (A : Option Addr) (n c B : Nat) (xs : List Int) (d : Int) (w : World) (H1 : n ≤ 1100 → LI w A n B xs) (_ : n ≤ c) :
    Calls Try.prog 7 #[.slice A n c, .int .i64 d] w fun e w' => e = .returned (.bool true) ∧ Frm w w' NoB := by
  have hF : Frm w w NoB := Frm.refl w _
  by_cases hl : 1100 < n
  · have HL := Lib.hid (decide_eq_true hl)
    clear H1 hl
    go_enter Try.func7, Try.ntmps7
    go_wp2_with (first | (go_at_call 21; (with_reducible refine (long_b HL _).mono ?_); rintro e x1 ⟨rfl, rfl⟩) | (go_at_call 16; (with_reducible refine (awake_t _).mono ?_); rintro e x9 ⟨rfl, f1⟩; replace hF := hF.trans f1 (fun _ _ h => h); clear f1))
    go_ret
    exact ⟨rfl, hF⟩
  · have HL := Lib.hid (decide_eq_false hl)
    have hX := (H1 (by omega)).up
    clear H1 hl
    obtain ⟨X, Y, r1⟩ := moR_form xs d
    obtain ⟨e0, he⟩ : ∃ e, moE xs d = e := ⟨_, rfl⟩
    have HE := Lib.hid he
    have HR := Lib.hid r1
    clear he r1
    go_enter Try.func7, Try.ntmps7
    go_wp2_with (first
      | (go_at_call 21; (with_reducible refine (long_b HL _).mono ?_); rintro e x1 ⟨rfl, rfl⟩)
      | (go_at_call 27; (with_reducible refine (modif_s HE HR hX).mono ?_); rintro e x3 ⟨rfl, f1⟩; replace hX := (hX.frm f1).alloc (.cells #[.int .i64 X, .int .i64 Y] 41); replace hF := (hF.trans f1 (fun _ _ h => h)).alloc (.cells #[.int .i64 X, .int .i64 Y] 41); have b1 := Blk.new x3 41 #[.int .i64 X, .int .i64 Y]; clear f1)
      | (go_at_call 28; (with_reducible refine (rmodif_s HE HR hX).mono ?_); rintro e x4 ⟨rfl, f1⟩; replace hX := (hX.frm f1).alloc (.cells #[.int .i64 X, .int .i64 Y] 41); replace hF := (hF.trans f1 (fun _ _ h => h)).alloc (.cells #[.int .i64 X, .int .i64 Y] 41); replace b1 := (b1.frm f1 (fun h => h)).alloc (.cells #[.int .i64 X, .int .i64 Y] 41); have b2 := Blk.new x4 41 #[.int .i64 X, .int .i64 Y]; clear f1; have k1 := b1.cellIs (i := 0) rfl; have k2 := b1.cellIs (i := 1) rfl; have k3 := b2.cellIs (i := 0) rfl; have k4 := b2.cellIs (i := 1) rfl)
      | (go_at_call 16; (with_reducible refine (awake_t _).mono ?_); rintro e x9 ⟨rfl, f1⟩; replace hF := hF.trans f1 (fun _ _ h => h); clear f1))
    go_ret
    exact ⟨rfl, hF⟩
end Go.Proofs.Ythpakpljfgmkfaa
