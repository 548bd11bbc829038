/- Range of the reference. -/
import Derived.Test.YthpakpljfgmkfaaW17
namespace Go.Proofs.Ythpakpljfgmkfaa
open Go.RowKit

set_option maxHeartbeats 8000000 in
theorem rrange_ok (b o n c q B : Nat) (xs : List Int) (w : World) (hX : LI w (some ⟨b, o, none⟩) n B xs) (HE : Hid (chk xs = 0)) (hq1 : 1 ≤ q) (hq2 : q < n) :
    Calls Try.prog 22 #[.slice (some ⟨b, o, none⟩) n c, .int .i64 (q : Int)] w fun e w' => e = .returned (.tuple #[.int .i64 (rngF xs q (n - q)), .int .i64 0]) ∧ Frm w w' NoB := by
  obtain ⟨hl, ho⟩ := chk_zero HE.out
  have HO := Lib.hid ho
  rw [hX.HN] at hl
  have HX := Lib.hid hX.HN
  have hF : Frm w w NoB := Frm.refl w _
  clear ho
  have g1 : decide ((q : Int) < 1) = false := decide_eq_false (by omega)
  have g2 : IntKind.i64.wrap ((n : Int) - 1) = (n : Int) - 1 := IntWalk.i64_in _ (by omega)
  have g3 : decide ((n : Int) - 1 < (q : Int)) = false := decide_eq_false (by omega)
  have hcell0 := fun wr (hF : Frm w wr NoB) => (hX.frm hF).hA.pos (by rw [HX.out]; omega)
  go_enter Try.func22, Try.ntmps22
  go_wp2_with (first
    | (go_at_call 24; (with_reducible refine (rcheck_b HE hX).mono ?_); rintro e x1 ⟨rfl, f1⟩; replace hF := hF.trans f1 (fun _ _ h => h); clear f1))
  go_loopw [7, 8, 9, 10, 11] (fun mo i _ _ _ wr => ∃ k : Nat, k ≤ n - q ∧ i = .int .i64 k ∧ mo = .int .i64 (rngF xs q k) ∧ Frm w wr NoB) (fun _ i _ _ _ _ => n - q - (intOf i).toNat)
  case atStart => exact ⟨0, Nat.zero_le _, rfl, rfl, hF⟩
  case round =>
    clear hF
    obtain ⟨k, hk, rfl, rfl, hF⟩ := hrel
    by_cases hlt : k < n - q
    · obtain ⟨b', o', e', hb', hcell⟩ := hX.hA.pos (by rw [HX.out]; omega)
      simp only [Option.some.injEq, Addr.mk.injEq, and_true] at e'
      obtain ⟨rfl, rfl⟩ := e'
      have hbw : b < w.heap.size := Nat.lt_of_lt_of_le hb' hX.hB
      have hrd : ∀ wr j, Frm w wr NoB → j < n → wr.cell? ⟨b, o + j, none⟩ = some (.int .i64 (xs.getD j 0)) := fun wr j f hj => (f.cell (p := ⟨b, o + j, none⟩) hbw (fun h => h)).trans (hcell j (by rw [HX.out]; exact hj))
      have HRD := Lib.hid hrd
      have q1 := hrd wr k hF (by omega)
      have t1 : IntKind.i64.wrap ((k : Int) + (q : Int)) = (k : Int) + (q : Int) := IntWalk.i64_in _ (by omega)
      have t2 : IntKind.i64.wrap ((k : Int) + (q : Int) + 1) = (k : Int) + (q : Int) + 1 := IntWalk.i64_in _ (by omega)
      have hk0 : (0 : Int) ≤ (k : Int) := Int.natCast_nonneg _
      have hk1 : (k : Int) < (n : Int) := by omega
      have hk2 : (k : Int) + (q : Int) < (n : Int) := by omega
      have hrb := rng_bounds (q := q) HO.out k (by rw [HX.out]; omega)
      have hmn := mn_bounds HO.out k (q + 1) (by rw [HX.out]; omega) (by rw [HX.out]; omega)
      have hmx := mx_bounds HO.out k (q + 1) (by rw [HX.out]; omega) (by rw [HX.out]; omega)
      have hmm := mn_mx xs k (q + 1)
      obtain ⟨x0, hx0⟩ : ∃ x, x = xs.getD k 0 := ⟨_, rfl⟩
      rw [← hx0] at q1
      have HX0 := Lib.hid hx0
      obtain ⟨Q, hQ⟩ : ∃ Q, Q = q + 1 := ⟨_, rfl⟩
      have HQ := Lib.hid hQ
      have hQ1 : Q ≤ n := by omega
      clear hcell hrd hx0 hQ
      go_wp2
      go_loopw [9, 10, 11] (fun lo hi j wr2 => ∃ m : Nat, m ≤ Q ∧ j = .int .i64 ((k + m : Nat) : Int) ∧ lo = .int .i64 (mnI xs k m) ∧ hi = .int .i64 (mxI xs k m) ∧ Frm w wr2 NoB) (fun _ _ j _ => k + Q - (intOf j).toNat)
      case atStart => exact ⟨0, Nat.zero_le _, rfl, by rw [HX0.out]; rfl, by rw [HX0.out]; rfl, hF⟩
      case round =>
        clear hF q1
        obtain ⟨m, hm, rfl, rfl, rfl, hF⟩ := hrel
        by_cases hlt2 : m < Q
        · have q2 := HRD.out _ (k + m) hF (by have := HQ.out; omega)
          rw [← Nat.add_assoc] at q2
          obtain ⟨J, hJ⟩ : ∃ J, J = k + m := ⟨_, rfl⟩
          rw [Nat.add_assoc] at q2
          have hm0 : (0 : Int) ≤ (J : Int) := Int.natCast_nonneg _
          have hm1 : (J : Int) < (n : Int) := by have := HQ.out; omega
          have hm2 : (J : Int) ≤ (k : Int) + (q : Int) := by have := HQ.out; omega
          have HJ := Lib.hid hJ
          have e1 : mnI xs k (m + 1) = if xs.getD (k + m) 0 < mnI xs k m then xs.getD (k + m) 0 else mnI xs k m := rfl
          have e2 : mxI xs k (m + 1) = if mxI xs k m < xs.getD (k + m) 0 then xs.getD (k + m) 0 else mxI xs k m := rfl
          obtain ⟨x, hx⟩ : ∃ x, x = xs.getD (k + m) 0 := ⟨_, rfl⟩
          obtain ⟨lo, hlo⟩ : ∃ x, x = mnI xs k m := ⟨_, rfl⟩
          obtain ⟨hi, hhi⟩ : ∃ x, x = mxI xs k m := ⟨_, rfl⟩
          rw [← hx] at q2 e1 e2
          rw [← hJ] at q2 ⊢
          rw [← hlo] at e1 ⊢
          rw [← hhi] at e2 ⊢
          have E1 := Lib.hid e1
          have E2 := Lib.hid e2
          clear e1 e2 hx hlo hhi hJ
          by_cases h1 : x < lo
          · by_cases h2 : hi < x
            · rw [if_pos h1] at E1
              rw [if_pos h2] at E2
              go_wp2
              go_roundw
              case rel => exact ⟨m + 1, by omega, by have := HJ.out; go_num, by rw [E1.out], by rw [E2.out], hF⟩
              case measure => have hj := HJ.out; simp [intOf]; omega
            · rw [if_pos h1] at E1
              rw [if_neg h2] at E2
              go_wp2
              go_roundw
              case rel => exact ⟨m + 1, by omega, by have := HJ.out; go_num, by rw [E1.out], by rw [E2.out], hF⟩
              case measure => have hj := HJ.out; simp [intOf]; omega
          · by_cases h2 : hi < x
            · rw [if_neg h1] at E1
              rw [if_pos h2] at E2
              go_wp2
              go_roundw
              case rel => exact ⟨m + 1, by omega, by have := HJ.out; go_num, by rw [E1.out], by rw [E2.out], hF⟩
              case measure => have hj := HJ.out; simp [intOf]; omega
            · rw [if_neg h1] at E1
              rw [if_neg h2] at E2
              go_wp2
              go_roundw
              case rel => exact ⟨m + 1, by omega, by have := HJ.out; go_num, by rw [E1.out], by rw [E2.out], hF⟩
              case measure => have hj := HJ.out; simp [intOf]; omega
        · have hmQ : m = Q := by omega
          have e1 : rngF xs q (k + 1) = if rngF xs q k < mxI xs k (q + 1) - mnI xs k (q + 1) then mxI xs k (q + 1) - mnI xs k (q + 1) else rngF xs q k := rfl
          rw [← HQ.out] at e1 hmn hmx hmm
          have hm2 : ¬ ((k + m : Nat) : Int) ≤ (k : Int) + (q : Int) := by have := HQ.out; omega
          obtain ⟨J, hJ⟩ : ∃ J, J = k + m := ⟨_, rfl⟩
          rw [← hJ] at hm2 ⊢
          clear hJ
          rw [hmQ]
          obtain ⟨lo, hlo⟩ : ∃ x, x = mnI xs k Q := ⟨_, rfl⟩
          obtain ⟨hi, hhi⟩ : ∃ x, x = mxI xs k Q := ⟨_, rfl⟩
          obtain ⟨mo, hmo⟩ : ∃ x, x = rngF xs q k := ⟨_, rfl⟩
          rw [← hlo] at e1 hmn hmm ⊢
          rw [← hhi] at e1 hmx hmm ⊢
          rw [← hmo] at e1 hrb ⊢
          have t3 : IntKind.i64.wrap (hi - lo) = hi - lo := IntWalk.i64_in _ (by omega)
          have E1 := Lib.hid e1
          clear e1 hlo hhi hmo hmQ
          by_cases h1 : mo < hi - lo
          · rw [if_pos h1] at E1
            go_wp2
            go_roundw
            case rel => exact ⟨k + 1, by omega, by go_num, by rw [E1.out], hF⟩
            case measure => simp [intOf]; omega
          · rw [if_neg h1] at E1
            go_wp2
            go_roundw
            case rel => exact ⟨k + 1, by omega, by go_num, by rw [E1.out], hF⟩
            case measure => simp [intOf]; omega
    · have hkn : k = n - q := by omega
      have HK := Lib.hid hkn
      have t1 : IntKind.i64.wrap ((k : Int) + (q : Int)) = (k : Int) + (q : Int) := IntWalk.i64_in _ (by omega)
      have hk2 : ¬ ((k : Int) + (q : Int) < (n : Int)) := by omega
      clear hkn hX
      go_wp2
      go_ret2
      exact ⟨by rw [← HK.out]; rfl, hF⟩
end Go.Proofs.Ythpakpljfgmkfaa
