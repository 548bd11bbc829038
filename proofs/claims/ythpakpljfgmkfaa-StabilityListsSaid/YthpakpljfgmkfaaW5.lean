/- A square added to a total. -/
import Derived.Test.YthpakpljfgmkfaaW4
namespace Go.Proofs.Ythpakpljfgmkfaa
open Go.RowKit

/-- The panic of a sum that does not fit. -/
def ovr : List PanicEntry := [{ v := .iface 63 (.agg #[]), recovered := false }]
section
variable (g s m : Nat) (x : Int) (w : World)
set_option maxHeartbeats 4000000 in
theorem add_ok (hx : x = (m : Int) ∨ x = -(m : Int)) (hg : Blk w g 65 #[.int .i64 (s : Int)]) (hs : m * m + s ≤ 9223372036854775807) (hm : m ≤ 9223372036854775807) :
    Calls Try.prog 37 #[.pointer (some ⟨g, 0, none⟩), .int .i64 x] w fun e w' => e = .returned (.tuple #[]) ∧ Blk w' g 65 #[.int .i64 ((m * m + s : Nat) : Int)] ∧ Frm w w' (· = g) := by
  have hmul := fun w => mul64_t m m w (by omega) (by omega)
  have e1 : m * m / 18446744073709551616 = 0 := Nat.div_eq_of_lt (by omega)
  have e2 : m * m % 18446744073709551616 = m * m := Nat.mod_eq_of_lt (by omega)
  rw [e1, e2] at hmul
  obtain ⟨M, hM⟩ : ∃ M, M = m * m := ⟨_, rfl⟩
  rw [← hM] at hmul hs ⊢
  have HM := Lib.hid hmul
  have c0 : w.cell? ⟨g, 0, none⟩ = some (.int .i64 (s : Int)) := hg.cellIs rfl
  have z0 := hg.frozen 0
  have t1 : IntKind.i64.wrap (-x) = -x := IntWalk.i64_in _ (by omega)
  have t2 : IntKind.u64.wrap (m : Int) = (m : Int) := by rw [IntKind.wrap_u64]; omega
  have t3 : IntKind.u64.wrap (s : Int) = (s : Int) := by rw [IntKind.wrap_u64]; omega
  have t4 : IntKind.u64.wrap ((M : Int) + (s : Int)) = ((M + s : Nat) : Int) := by rw [IntKind.wrap_u64]; omega
  have t5 : IntKind.i64.wrap ((M + s : Nat) : Int) = ((M + s : Nat) : Int) := IntWalk.i64_in _ (by omega)
  obtain ⟨N, hN⟩ : ∃ N, N = M + s := ⟨_, rfl⟩
  rw [← hN] at t4 t5 hs ⊢
  have g1 : decide ((9223372036854775807 : Int) < (M : Int)) = false := decide_eq_false (by omega)
  have g2 : decide ((9223372036854775807 : Int) < (N : Int)) = false := decide_eq_false (by omega)
  have g3 : ¬ (9223372036854775807 : Int) < (M : Int) := by omega
  have g4 : ¬ (9223372036854775807 : Int) < (N : Int) := by omega
  have hB := hg.put 0 (.int .i64 (N : Int))
  have hF := (Frm.refl w (· = g)).put (b := g) (fun _ => rfl) 0 (.int .i64 (N : Int))
  have hxm : 0 ≤ x → x = (m : Int) := by omega
  have hxn : x < 0 → -x = (m : Int) := by omega
  clear hmul hM e1 e2 hN hx
  by_cases hx0 : x < 0
  · have hx1 := hxn hx0
    rw [hx1] at t1
    clear hxm hxn
    go_enter Try.func37, Try.ntmps37
    go_wp2_with (first
      | (go_at_call 49; (with_reducible refine (HM.out _).mono ?_); rintro e x1 ⟨rfl, rfl⟩))
    refine bodyPost_end (v := .tuple #[]) (by simp [results, Try.results37]) rfl ?_
    exact ⟨rfl, hB, hF⟩
  · have hx1 := hxm (by omega)
    subst hx1
    clear hxm hxn hx0
    go_enter Try.func37, Try.ntmps37
    go_wp2_with (first
      | (go_at_call 49; (with_reducible refine (HM.out _).mono ?_); rintro e x1 ⟨rfl, rfl⟩))
    refine bodyPost_end (v := .tuple #[]) (by simp [results, Try.results37]) rfl ?_
    exact ⟨rfl, hB, hF⟩

set_option maxHeartbeats 4000000 in
theorem add_bad (hx : x = (m : Int) ∨ x = -(m : Int)) (hg : Blk w g 65 #[.int .i64 (s : Int)]) (hs : 9223372036854775807 < m * m + s) (hm : m ≤ 9223372036854775807) (hs2 : s ≤ 9223372036854775807) :
    Calls Try.prog 37 #[.pointer (some ⟨g, 0, none⟩), .int .i64 x] w fun e w' => e = .panicked ovr ∧ Frm w w' NoB := by
  have hmul := fun w => mul64_t m m w (by omega) (by omega)
  obtain ⟨hi, hhi⟩ : ∃ hi, hi = m * m / 18446744073709551616 := ⟨_, rfl⟩
  obtain ⟨lo, hlo⟩ : ∃ lo, lo = m * m % 18446744073709551616 := ⟨_, rfl⟩
  have hsum : 18446744073709551616 * hi + lo = m * m := by rw [hhi, hlo]; exact Nat.div_add_mod _ _
  have hlt : lo < 18446744073709551616 := by rw [hlo]; exact Nat.mod_lt _ (by decide)
  rw [← hhi, ← hlo] at hmul
  rw [← hsum] at hs
  have HM := Lib.hid hmul
  have c0 : w.cell? ⟨g, 0, none⟩ = some (.int .i64 (s : Int)) := hg.cellIs rfl
  have t1 : IntKind.i64.wrap (-x) = -x := IntWalk.i64_in _ (by omega)
  have t2 : IntKind.u64.wrap (m : Int) = (m : Int) := by rw [IntKind.wrap_u64]; omega
  have t3 : IntKind.u64.wrap (s : Int) = (s : Int) := by rw [IntKind.wrap_u64]; omega
  have hF := Frm.refl w NoB
  have hxm : 0 ≤ x → x = (m : Int) := by omega
  have hxn : x < 0 → -x = (m : Int) := by omega
  clear hmul hhi hlo hsum hx
  by_cases hh : hi = 0
  · subst hh
    obtain ⟨N, hN⟩ : ∃ N, N = lo + s := ⟨_, rfl⟩
    by_cases h1 : 9223372036854775807 < lo
    · have g1 : decide ((9223372036854775807 : Int) < (lo : Int)) = true := decide_eq_true (by omega)
      have g3 : (9223372036854775807 : Int) < (lo : Int) := by omega
      have t4 : ∃ X, IntKind.u64.wrap ((lo : Int) + (s : Int)) = X := ⟨_, rfl⟩
      obtain ⟨X, t4⟩ := t4
      clear hN
      by_cases hx0 : x < 0
      · have hx1 := hxn hx0
        rw [hx1] at t1
        clear hxm hxn hs hlt
        go_enter Try.func37, Try.ntmps37
        go_wp2_with (first
          | (go_at_call 49; (with_reducible refine (HM.out _).mono ?_); rintro e x1 ⟨rfl, rfl⟩))
        exact ⟨rfl, rfl, hF⟩
      · have hx1 := hxm (by omega)
        subst hx1
        clear hxm hxn hx0 hs hlt
        go_enter Try.func37, Try.ntmps37
        go_wp2_with (first
          | (go_at_call 49; (with_reducible refine (HM.out _).mono ?_); rintro e x1 ⟨rfl, rfl⟩))
        exact ⟨rfl, rfl, hF⟩
    · have t4 : IntKind.u64.wrap ((lo : Int) + (s : Int)) = (N : Int) := by rw [IntKind.wrap_u64]; omega
      have g1 : decide ((9223372036854775807 : Int) < (lo : Int)) = false := decide_eq_false (by omega)
      have g3 : ¬ (9223372036854775807 : Int) < (lo : Int) := by omega
      have g2 : decide ((9223372036854775807 : Int) < (N : Int)) = true := decide_eq_true (by omega)
      have g4 : (9223372036854775807 : Int) < (N : Int) := by omega
      clear hN
      by_cases hx0 : x < 0
      · have hx1 := hxn hx0
        rw [hx1] at t1
        clear hxm hxn hs hlt
        go_enter Try.func37, Try.ntmps37
        go_wp2_with (first
          | (go_at_call 49; (with_reducible refine (HM.out _).mono ?_); rintro e x1 ⟨rfl, rfl⟩))
        exact ⟨rfl, rfl, hF⟩
      · have hx1 := hxm (by omega)
        subst hx1
        clear hxm hxn hx0 hs hlt
        go_enter Try.func37, Try.ntmps37
        go_wp2_with (first
          | (go_at_call 49; (with_reducible refine (HM.out _).mono ?_); rintro e x1 ⟨rfl, rfl⟩))
        exact ⟨rfl, rfl, hF⟩
  · have hb : ((hi : Int) != 0) = true := by rw [bne_iff_ne]; omega
    have t4 : ∃ X, IntKind.u64.wrap ((lo : Int) + (s : Int)) = X := ⟨_, rfl⟩
    obtain ⟨X, t4⟩ := t4
    by_cases hx0 : x < 0
    · have hx1 := hxn hx0
      rw [hx1] at t1
      clear hxm hxn hs hlt
      go_enter Try.func37, Try.ntmps37
      go_wp2_with (first
        | (go_at_call 49; (with_reducible refine (HM.out _).mono ?_); rintro e x1 ⟨rfl, rfl⟩))
      exact ⟨rfl, rfl, hF⟩
    · have hx1 := hxm (by omega)
      subst hx1
      clear hxm hxn hx0 hs hlt
      go_enter Try.func37, Try.ntmps37
      go_wp2_with (first
        | (go_at_call 49; (with_reducible refine (HM.out _).mono ?_); rintro e x1 ⟨rfl, rfl⟩))
      exact ⟨rfl, rfl, hF⟩
end
end Go.Proofs.Ythpakpljfgmkfaa
