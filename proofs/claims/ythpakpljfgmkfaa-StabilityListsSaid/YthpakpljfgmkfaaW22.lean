/- StabilityBlind, walked. -/
import Derived.Test.YthpakpljfgmkfaaW21
namespace Go.Proofs.Ythpakpljfgmkfaa
open Go.RowKit

theorem alR_form (xs : List Int) (d : Int) : ∃ X Y : Int, alR xs d = .agg #[.int .i64 X, .int .i64 Y] := by
  unfold alR ratI
  split
  · exact ⟨_, _, rfl⟩
  · exact ⟨_, _, rfl⟩
theorem moR_form (xs : List Int) (d : Int) : ∃ X Y : Int, moR xs d = .agg #[.int .i64 X, .int .i64 Y] := by
  unfold moR ratI
  split
  · exact ⟨_, _, rfl⟩
  · exact ⟨_, _, rfl⟩
theorem line_b {A : Option Addr} {n c N B : Nat} {xs L : List Int} {a b : Int} {w : World} (HL : Hid (lnL xs a b N = L)) (hX : LX w A n B xs) (hc : n ≤ c) (hN : Hid (N = min n 1000)) (ha : -2147483648 ≤ a ∧ a ≤ 2147483647) (hb : -32768 ≤ b ∧ b ≤ 32767) :
    Calls Try.prog 12 #[.slice A n c, .int .i64 a, .int .i64 b] w fun e w' => ∃ A' c', e = .returned (.slice A' N c') ∧ N ≤ c' ∧ LI w' A' N w'.heap.size L ∧ Frm w w' NoB := by
  rw [← HL.out]; exact line_t A n c N B xs a b w hX hc hN.out ha hb
theorem detrend_n {A : Option Addr} {n c B N : Nat} {xs ps : List Int} {e0 : Int} {w : World} (HE : Hid (dtE xs = e0)) (HV : Hid (dtR xs = ps)) (HN : Hid (ps.length = N)) (hX : LI w A n B xs) :
    Calls Try.prog 20 #[.slice A n c] w fun e w' => ∃ A' c', e = .returned (.tuple #[.slice A' N c', .int .i64 e0]) ∧ LI w' A' N w'.heap.size ps ∧ Frm w w' NoB := by
  rw [← HN.out]
  refine (detrend_s HE HV hX).mono ?_
  rintro e w' ⟨A', c', rfl, hl, _, f⟩
  exact ⟨A', c', rfl, hl, f⟩

set_option maxHeartbeats 8000000 in
theorem stabilityBlind_walk (A : Option Addr) (n c B : Nat) (xs : List Int) (d a b : Int) (w : World) (hX : LX w A n B xs) (hc : n ≤ c) (ha : -2147483648 ≤ a ∧ a ≤ 2147483647) (hb : -32768 ≤ b ∧ b ≤ 32767) :
    Calls Try.prog 8 #[.slice A n c, .int .i64 d, .int .i32 a, .int .i16 b] w fun e w' => e = .returned (.bool true) ∧ Frm w w' NoB := by
  obtain ⟨N, hN⟩ : ∃ N, N = min n 1000 := ⟨_, rfl⟩
  have hxr : ∀ j, j < N → -2147483648 ≤ xs.getD j 0 ∧ xs.getD j 0 ≤ 2147483647 := fun j hj => by
    obtain ⟨_, _, _, _, h⟩ := hX.pos (by omega)
    exact (h j (by omega)).2
  obtain ⟨p1, p2⟩ := blind_al (by omega : N ≤ 1000) hxr ha hb d
  obtain ⟨p3, p4⟩ := blind_mo (by omega : N ≤ 1000) hxr ha hb d
  obtain ⟨p5, p6⟩ := blind_dt (by omega : N ≤ 1000) hxr ha hb
  obtain ⟨X, Y, r1⟩ := alR_form (lnL xs 0 0 N) d
  obtain ⟨U, V, r2⟩ := moR_form (lnL xs 0 0 N) d
  obtain ⟨L, hL⟩ : ∃ L, lnL xs 0 0 N = L := ⟨_, rfl⟩
  obtain ⟨M, hM⟩ : ∃ M, lnL xs a b N = M := ⟨_, rfl⟩
  rw [hM] at p1 p2 p3 p4 p5 p6
  rw [hL] at p1 p2 p3 p4 p5 p6 r1 r2
  rw [r1] at p2
  rw [r2] at p4
  obtain ⟨e1, q1⟩ : ∃ e, alE L d = e := ⟨_, rfl⟩
  obtain ⟨e2, q2⟩ : ∃ e, moE L d = e := ⟨_, rfl⟩
  obtain ⟨e3, q3⟩ : ∃ e, dtE L = e := ⟨_, rfl⟩
  obtain ⟨ps, q4⟩ : ∃ e, dtR L = e := ⟨_, rfl⟩
  obtain ⟨K, q5⟩ : ∃ K, ps.length = K := ⟨_, rfl⟩
  rw [q1] at p1
  rw [q2] at p3
  rw [q3] at p5
  rw [q4] at p6
  have HN := Lib.hid hN
  have HL := Lib.hid hL
  have HM := Lib.hid hM
  have P1 := Lib.hid p1
  have P2 := Lib.hid p2
  have P3 := Lib.hid p3
  have P4 := Lib.hid p4
  have P5 := Lib.hid p5
  have P6 := Lib.hid p6
  have R1 := Lib.hid r1
  have R2 := Lib.hid r2
  have Q1 := Lib.hid q1
  have Q2 := Lib.hid q2
  have Q3 := Lib.hid q3
  have Q4 := Lib.hid q4
  have Q5 := Lib.hid q5
  have t1 : IntKind.i64.wrap a = a := IntWalk.i64_in _ (by omega)
  have t2 : IntKind.i64.wrap b = b := IntWalk.i64_in _ (by omega)
  have hz : (-2147483648 : Int) ≤ 0 ∧ (0 : Int) ≤ 2147483647 := by decide
  have hz2 : (-32768 : Int) ≤ 0 ∧ (0 : Int) ≤ 32767 := by decide
  have hF : Frm w w NoB := Frm.refl w _
  clear hN hxr hL hM p1 p2 p3 p4 p5 p6 r1 r2 q1 q2 q3 q4 q5
  go_enter Try.func8, Try.ntmps8
  go_wp2_with (first
    | (go_at_call 12; (with_reducible refine (line_b HL hX hc HN hz hz2).mono ?_); rintro e x1 ⟨A9, c9, rfl, hc9, hL, f1⟩; replace hX := hX.frm f1; replace hF := hF.trans f1 (fun _ _ h => h); clear f1)
    | (go_at_call 12; (with_reducible refine (line_b HM hX hc HN ha hb).mono ?_); rintro e x2 ⟨A10, c10, rfl, hc10, hM, f1⟩; replace hL := hL.frm f1; replace hF := hF.trans f1 (fun _ _ h => h); clear f1)
    | (go_at_call 25; (with_reducible refine (allan_s Q1 R1 hL).mono ?_); rintro e x3 ⟨rfl, f1⟩; replace hL := (hL.frm f1).alloc (.cells #[.int .i64 X, .int .i64 Y] 41); replace hM := (hM.frm f1).alloc (.cells #[.int .i64 X, .int .i64 Y] 41); replace hF := (hF.trans f1 (fun _ _ h => h)).alloc (.cells #[.int .i64 X, .int .i64 Y] 41); have b1 := Blk.new x3 41 #[.int .i64 X, .int .i64 Y]; clear f1)
    | (go_at_call 25; (with_reducible refine (allan_s P1 P2 hM).mono ?_); rintro e x4 ⟨rfl, f1⟩; replace hL := (hL.frm f1).alloc (.cells #[.int .i64 X, .int .i64 Y] 41); replace hM := (hM.frm f1).alloc (.cells #[.int .i64 X, .int .i64 Y] 41); replace hF := (hF.trans f1 (fun _ _ h => h)).alloc (.cells #[.int .i64 X, .int .i64 Y] 41); replace b1 := (b1.frm f1 (fun h => h)).alloc (.cells #[.int .i64 X, .int .i64 Y] 41); have b2 := Blk.new x4 41 #[.int .i64 X, .int .i64 Y]; clear f1)
    | (go_at_call 27; (with_reducible refine (modif_s Q2 R2 hL).mono ?_); rintro e x5 ⟨rfl, f1⟩; replace hL := (hL.frm f1).alloc (.cells #[.int .i64 U, .int .i64 V] 41); replace hM := (hM.frm f1).alloc (.cells #[.int .i64 U, .int .i64 V] 41); replace hF := (hF.trans f1 (fun _ _ h => h)).alloc (.cells #[.int .i64 U, .int .i64 V] 41); replace b1 := (b1.frm f1 (fun h => h)).alloc (.cells #[.int .i64 U, .int .i64 V] 41); replace b2 := (b2.frm f1 (fun h => h)).alloc (.cells #[.int .i64 U, .int .i64 V] 41); have b3 := Blk.new x5 41 #[.int .i64 U, .int .i64 V]; clear f1)
    | (go_at_call 27; (with_reducible refine (modif_s P3 P4 hM).mono ?_); rintro e x6 ⟨rfl, f1⟩; replace hL := (hL.frm f1).alloc (.cells #[.int .i64 U, .int .i64 V] 41); replace hM := (hM.frm f1).alloc (.cells #[.int .i64 U, .int .i64 V] 41); replace hF := (hF.trans f1 (fun _ _ h => h)).alloc (.cells #[.int .i64 U, .int .i64 V] 41); replace b1 := (b1.frm f1 (fun h => h)).alloc (.cells #[.int .i64 U, .int .i64 V] 41); replace b2 := (b2.frm f1 (fun h => h)).alloc (.cells #[.int .i64 U, .int .i64 V] 41); replace b3 := (b3.frm f1 (fun h => h)).alloc (.cells #[.int .i64 U, .int .i64 V] 41); have b4 := Blk.new x6 41 #[.int .i64 U, .int .i64 V]; clear f1)
    | (go_at_call 20; (with_reducible refine (detrend_n Q3 Q4 Q5 hL).mono ?_); rintro e x7 ⟨A19, c19, rfl, h19, f1⟩; replace hM := hM.frm f1; replace hF := hF.trans f1 (fun _ _ h => h); replace b1 := b1.frm f1 (fun h => h); replace b2 := b2.frm f1 (fun h => h); replace b3 := b3.frm f1 (fun h => h); replace b4 := b4.frm f1 (fun h => h); clear f1 hL)
    | (go_at_call 20; (with_reducible refine (detrend_n P5 P6 Q5 hM).mono ?_); rintro e x8 ⟨A21, c21, rfl, h21, f1⟩; replace h19 := h19.frm f1; replace hF := hF.trans f1 (fun _ _ h => h); replace b1 := b1.frm f1 (fun h => h); replace b2 := b2.frm f1 (fun h => h); replace b3 := b3.frm f1 (fun h => h); replace b4 := b4.frm f1 (fun h => h); clear f1 hM; have k1 := b1.cellIs (i := 0) rfl; have k2 := b1.cellIs (i := 1) rfl; have k3 := b2.cellIs (i := 0) rfl; have k4 := b2.cellIs (i := 1) rfl; have k5 := b3.cellIs (i := 0) rfl; have k6 := b3.cellIs (i := 1) rfl; have k7 := b4.cellIs (i := 0) rfl; have k8 := b4.cellIs (i := 1) rfl)
    | (go_at_call 19; (with_reducible refine (eql_li h19 h21).mono ?_); rintro e x9 ⟨rfl, f1⟩; replace hF := hF.trans f1 (fun _ _ h => h); clear f1)
    | (go_at_call 16; (with_reducible refine (awake_t _).mono ?_); rintro e x9 ⟨rfl, f1⟩; replace hF := hF.trans f1 (fun _ _ h => h); clear f1))
  go_ret
  exact ⟨rfl, hF⟩
end Go.Proofs.Ythpakpljfgmkfaa
