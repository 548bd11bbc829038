/- StabilityLists, walked. -/
import Derived.Test.YthpakpljfgmkfaaW50
namespace Go.Proofs.Ythpakpljfgmkfaa
open Go.RowKit

set_option maxRecDepth 20000 in
set_option maxHeartbeats 8000000 in
theorem stabilityLists_walk (A : Option Addr) (n c B : Nat) (xs : List Int) (d : Int) (w : World) (H1 : n ≤ 1100 → LI w A n B xs) (hc : n ≤ c) (hd : -9223372036854775808 ≤ d ∧ d ≤ 9223372036854775807) :
    Calls Try.prog 11 #[.slice A n c, .int .i64 d] w fun e w' => e = .returned (.bool true) ∧ Frm w w' NoB := by
  have hF : Frm w w NoB := Frm.refl w _
  have _ := hc
  by_cases hl : 1100 < n
  · have HL := Lib.hid (decide_eq_true hl)
    clear H1 hl
    go_enter Try.func11, Try.ntmps11
    go_wp2_with (first | (go_at_call 21; (with_reducible refine (long_b HL _).mono ?_); rintro e x1 ⟨rfl, rfl⟩) | (go_at_call 16; (with_reducible refine (awake_t _).mono ?_); rintro e x9 ⟨rfl, f1⟩; replace hF := hF.trans f1 (fun _ _ h => h); clear f1))
    go_ret
    exact ⟨rfl, hF⟩
  · have HL := Lib.hid (decide_eq_false hl)
    have hX := (H1 (by omega)).up
    have hd2 := hd.2
    clear H1 hl hd
    obtain ⟨e0, he⟩ : ∃ e, dcE xs d = e := ⟨_, rfl⟩
    obtain ⟨ys, hv⟩ : ∃ e, dcR xs d = e := ⟨_, rfl⟩
    obtain ⟨K, hk⟩ : ∃ e, ys.length = e := ⟨_, rfl⟩
    obtain ⟨e1, he1⟩ : ∃ e, dtE xs = e := ⟨_, rfl⟩
    obtain ⟨ps, hv1⟩ : ∃ e, dtR xs = e := ⟨_, rfl⟩
    obtain ⟨M, hk1⟩ : ∃ e, ps.length = e := ⟨_, rfl⟩
    have HE := Lib.hid he
    have HV := Lib.hid hv
    have HK := Lib.hid hk
    have HE1 := Lib.hid he1
    have HV1 := Lib.hid hv1
    have HK1 := Lib.hid hk1
    clear he hv hk he1 hv1 hk1
    go_enter Try.func11, Try.ntmps11
    go_wp2_with (first
      | (go_at_call 21; (with_reducible refine (long_b HL _).mono ?_); rintro e x1 ⟨rfl, rfl⟩)
      | (go_at_call 18; (with_reducible refine (dec_s HE HV HK hd2 hX).mono ?_); rintro e x1 ⟨Aa, ca, rfl, hA, f1⟩; replace hX := hX.frm f1; replace hF := hF.trans f1 (fun _ _ h => h); clear f1)
      | (go_at_call 30; (with_reducible refine (rdec_s HE HV HK hd2 hX).mono ?_); rintro e x2 ⟨Ab, cb, rfl, hB, f1⟩; replace hX := hX.frm f1; replace hA := hA.frm f1; replace hF := hF.trans f1 (fun _ _ h => h); clear f1)
      | (go_at_call 20; (with_reducible refine (detrend_n HE1 HV1 HK1 hX).mono ?_); rintro e x3 ⟨Ac, cc, rfl, hC, f1⟩; replace hX := hX.frm f1; replace hA := hA.frm f1; replace hB := hB.frm f1; replace hF := hF.trans f1 (fun _ _ h => h); clear f1)
      | (go_at_call 31; (with_reducible refine (rdetrend_n HE1 HV1 HK1 hX).mono ?_); rintro e x4 ⟨Ad, cd, rfl, hD, f1⟩; replace hX := hX.frm f1; replace hA := hA.frm f1; replace hB := hB.frm f1; replace hC := hC.frm f1; replace hF := hF.trans f1 (fun _ _ h => h); clear f1)
      | (go_at_call 19; (with_reducible refine (eql_li hA hB).mono ?_); rintro e x5 ⟨rfl, f1⟩; replace hX := hX.frm f1; replace hC := hC.frm f1; replace hD := hD.frm f1; replace hF := hF.trans f1 (fun _ _ h => h); clear f1)
      | (go_at_call 19; (with_reducible refine (eql_li hC hD).mono ?_); rintro e x6 ⟨rfl, f1⟩; replace hX := hX.frm f1; replace hF := hF.trans f1 (fun _ _ h => h); clear f1)
      | (go_at_call 32; (with_reducible refine (rms_s hX).mono ?_); rintro e x7 ⟨r, rfl, hr, f1⟩; replace hr := Lib.hid hr; replace hX := hX.frm f1; replace hF := hF.trans f1 (fun _ _ h => h); clear f1)
      | (go_at_call 33; (with_reducible refine (rrms_s hX).mono ?_); rintro e x8 ⟨s, rfl, hs, f1⟩; obtain rfl := rms_unique hr.out hs; clear hs; replace hF := hF.trans f1 (fun _ _ h => h); clear f1)
      | (go_at_call 16; (with_reducible refine (awake_t _).mono ?_); rintro e x9 ⟨rfl, f1⟩; replace hF := hF.trans f1 (fun _ _ h => h); clear f1))
    go_ret
    exact ⟨rfl, hF⟩
end Go.Proofs.Ythpakpljfgmkfaa
