/- What Range of the program returns. -/
import Derived.Test.YthpakpljfgmkfaaW1
namespace Go.Proofs.Ythpakpljfgmkfaa
open Go.RowKit

/-- The least and the greatest of element i and the k elements from i on. -/
def mnI (xs : List Int) (i : Nat) : Nat → Int
  | 0 => xs.getD i 0
  | k + 1 => if xs.getD (i + k) 0 < mnI xs i k then xs.getD (i + k) 0 else mnI xs i k
def mxI (xs : List Int) (i : Nat) : Nat → Int
  | 0 => xs.getD i 0
  | k + 1 => if mxI xs i k < xs.getD (i + k) 0 then xs.getD (i + k) 0 else mxI xs i k
/-- The greatest difference within the first i windows of q steps. -/
def rngF (xs : List Int) (q : Nat) : Nat → Int
  | 0 => 0
  | i + 1 => if rngF xs q i < mxI xs i (q + 1) - mnI xs i (q + 1) then mxI xs i (q + 1) - mnI xs i (q + 1) else rngF xs q i
theorem mn_bounds {xs : List Int} (h : okl xs xs.length) (i : Nat) : ∀ k, i + k ≤ xs.length → i < xs.length → -1099511627776 ≤ mnI xs i k ∧ mnI xs i k ≤ 1099511627776
  | 0, _, hi => h i hi
  | k + 1, hk, hi => by
    have ih := mn_bounds h i k (by omega) hi
    have := h (i + k) (by omega)
    unfold mnI
    split <;> omega
theorem mx_bounds {xs : List Int} (h : okl xs xs.length) (i : Nat) : ∀ k, i + k ≤ xs.length → i < xs.length → -1099511627776 ≤ mxI xs i k ∧ mxI xs i k ≤ 1099511627776
  | 0, _, hi => h i hi
  | k + 1, hk, hi => by
    have ih := mx_bounds h i k (by omega) hi
    have := h (i + k) (by omega)
    unfold mxI
    split <;> omega
theorem mn_mx (xs : List Int) (i : Nat) : ∀ k, mnI xs i k ≤ mxI xs i k
  | 0 => Int.le_refl _
  | k + 1 => by
    have ih := mn_mx xs i k
    unfold mnI mxI
    split <;> split <;> omega
theorem rng_bounds {xs : List Int} {q : Nat} (h : okl xs xs.length) : ∀ i, i + q ≤ xs.length → 0 ≤ rngF xs q i ∧ rngF xs q i ≤ 2199023255552
  | 0, _ => ⟨by show (0 : Int) ≤ 0; decide, by show (0 : Int) ≤ _; decide⟩
  | i + 1, hi => by
    have ih := rng_bounds (q := q) h i (by omega)
    have h1 := mn_bounds h i (q + 1) (by omega) (by omega)
    have h2 := mx_bounds h i (q + 1) (by omega) (by omega)
    unfold rngF
    split <;> omega
/-- Range's error, and its number. -/
noncomputable def rgE (xs : List Int) (d : Int) : Int := if chk xs ≠ 0 then chk xs else if d < 1 ∨ (xs.length : Int) - 1 < d then 3 else 0
noncomputable def rgV (xs : List Int) (d : Int) : Int := if rgE xs d = 0 then rngF xs d.toNat (xs.length - d.toNat) else 0

theorem sl_lh (b o n c i q : Nat) (hi : i + q < n) (hc : n ≤ c) (w : World) :
    (Instr.sliceAt 23 (.slice (some ⟨b, o, none⟩) n c) (some (.int .i64 (i : Int))) (some (.int .i64 ((i : Int) + (q : Int) + 1))) none).run Try.prog w = .ok (.slice (some ⟨b, o + i, none⟩) (q + 1) (c - i)) w := by
  have hu : Try.prog.underlying 23 = some (.slice (Try.prog.elem 23)) := by kernel_rfl
  have hs : ∀ w, (sizeOf (Try.prog.elem 23)).run Try.prog w = .ok 1 w := fun w => by kernel_rfl
  rw [run_sliceAt_slice _ _ _ _ _ _ hu, run_slice_lh _ _ _ _ _ hu .i64 .i64 (i : Int) ((i : Int) + (q : Int) + 1) (by omega) (by omega) (by omega), hs]
  simp only [Result.andThen, sliced]
  have e1 : ((i : Int) + (q : Int) + 1).toNat - (i : Int).toNat = q + 1 := by omega
  rw [e1, Int.toNat_natCast, if_neg (by omega)]
  simp [Addr.add]

set_option maxHeartbeats 8000000 in
theorem range_ok (b o n c q B : Nat) (xs : List Int) (w : World) (hX : LI w (some ⟨b, o, none⟩) n B xs) (hc : n ≤ c) (HE : Hid (chk xs = 0)) (hq1 : 1 ≤ q) (hq2 : q < n) :
    Calls Try.prog 13 #[.slice (some ⟨b, o, none⟩) n c, .int .i64 (q : Int)] w fun e w' => e = .returned (.tuple #[.int .i64 (rngF xs q (n - q)), .int .i64 0]) ∧ Frm w w' NoB := by
  obtain ⟨hl, ho⟩ := chk_zero HE.out
  have HO := Lib.hid ho
  rw [hX.HN] at hl
  have HX := Lib.hid hX.HN
  have hF : Frm w w NoB := Frm.refl w _
  clear ho
  have g1 : decide ((q : Int) < 1) = false := decide_eq_false (by omega)
  have g2 : IntKind.i64.wrap ((n : Int) - 1) = (n : Int) - 1 := IntWalk.i64_in _ (by omega)
  have g3 : decide ((n : Int) - 1 < (q : Int)) = false := decide_eq_false (by omega)
  have hcell0 := fun wr (hF : Frm w wr NoB) => (hX.frm hF).hA.pos (by rw [HX.out]; omega)
  go_enter Try.func13, Try.ntmps13
  go_wp2_with (first
    | (go_at_call 23; (with_reducible refine (check_b HE hX).mono ?_); rintro e x1 ⟨rfl, f1⟩; replace hF := hF.trans f1 (fun _ _ h => h); clear f1))
  go_loopw [7, 8, 9, 10, 12, 51] (fun mo i _ _ _ _ wr => ∃ k : Nat, k ≤ n - q ∧ i = .int .i64 k ∧ mo = .int .i64 (rngF xs q k) ∧ Frm w wr NoB) (fun _ i _ _ _ _ _ => n - q - (intOf i).toNat)
  case atStart => exact ⟨0, Nat.zero_le _, rfl, rfl, hF⟩
  case round =>
    clear hF
    obtain ⟨k, hk, rfl, rfl, hF⟩ := hrel
    by_cases hlt : k < n - q
    · obtain ⟨b', o', e', hb', hcell⟩ := hX.hA.pos (by rw [HX.out]; omega)
      simp only [Option.some.injEq, Addr.mk.injEq, and_true] at e'
      obtain ⟨rfl, rfl⟩ := e'
      have hbw : b < w.heap.size := Nat.lt_of_lt_of_le hb' hX.hB
      have hrd : ∀ wr j, Frm w wr NoB → j < n → wr.cell? ⟨b, o + j, none⟩ = some (.int .i64 (xs.getD j 0)) := fun wr j f hj => (f.cell (p := ⟨b, o + j, none⟩) hbw (fun h => h)).trans (hcell j (by rw [HX.out]; exact hj))
      have HRD := Lib.hid hrd
      have q1 := hrd wr k hF (by omega)
      have sl := sl_lh b o n c k q (by omega) hc
      have t1 : IntKind.i64.wrap ((k : Int) + (q : Int)) = (k : Int) + (q : Int) := IntWalk.i64_in _ (by omega)
      have t2 : IntKind.i64.wrap ((k : Int) + (q : Int) + 1) = (k : Int) + (q : Int) + 1 := IntWalk.i64_in _ (by omega)
      have hk0 : (0 : Int) ≤ (k : Int) := Int.natCast_nonneg _
      have hk1 : (k : Int) < (n : Int) := by omega
      have hk2 : (k : Int) + (q : Int) < (n : Int) := by omega
      have hrb := rng_bounds (q := q) HO.out k (by rw [HX.out]; omega)
      have hmn := mn_bounds HO.out k (q + 1) (by rw [HX.out]; omega) (by rw [HX.out]; omega)
      have hmx := mx_bounds HO.out k (q + 1) (by rw [HX.out]; omega) (by rw [HX.out]; omega)
      have hmm := mn_mx xs k (q + 1)
      obtain ⟨x0, hx0⟩ : ∃ x, x = xs.getD k 0 := ⟨_, rfl⟩
      rw [← hx0] at q1
      have HX0 := Lib.hid hx0
      obtain ⟨Q, hQ⟩ : ∃ Q, Q = q + 1 := ⟨_, rfl⟩
      rw [← hQ] at sl
      have HQ := Lib.hid hQ
      have hQ1 : Q ≤ n := by omega
      clear hcell hrd hx0 hQ
      go_wp2
      go_quiet (fail)
      go_wp2
      go_loopw [9, 10, 12, 51] (fun lo hi _ j wr2 => ∃ m : Nat, m ≤ Q ∧ j = .int .i64 m ∧ lo = .int .i64 (mnI xs k m) ∧ hi = .int .i64 (mxI xs k m) ∧ Frm w wr2 NoB) (fun _ _ _ j _ => Q - (intOf j).toNat)
      case atStart => exact ⟨0, Nat.zero_le _, rfl, by rw [HX0.out]; rfl, by rw [HX0.out]; rfl, hF.drewN _⟩
      case round =>
        clear hF q1 sl
        obtain ⟨m, hm, rfl, rfl, rfl, hF⟩ := hrel
        by_cases hlt2 : m < Q
        · have q2 := HRD.out _ (k + m) hF (by have := HQ.out; omega)
          rw [← Nat.add_assoc] at q2
          have hm0 : (0 : Int) ≤ (m : Int) := Int.natCast_nonneg _
          have hm1 : (m : Int) < (Q : Int) := by omega
          have e1 : mnI xs k (m + 1) = if xs.getD (k + m) 0 < mnI xs k m then xs.getD (k + m) 0 else mnI xs k m := rfl
          have e2 : mxI xs k (m + 1) = if mxI xs k m < xs.getD (k + m) 0 then xs.getD (k + m) 0 else mxI xs k m := rfl
          obtain ⟨x, hx⟩ : ∃ x, x = xs.getD (k + m) 0 := ⟨_, rfl⟩
          obtain ⟨lo, hlo⟩ : ∃ x, x = mnI xs k m := ⟨_, rfl⟩
          obtain ⟨hi, hhi⟩ : ∃ x, x = mxI xs k m := ⟨_, rfl⟩
          rw [← hx] at q2 e1 e2
          rw [← hlo] at e1 ⊢
          rw [← hhi] at e2 ⊢
          have E1 := Lib.hid e1
          have E2 := Lib.hid e2
          clear e1 e2 hx hlo hhi
          by_cases h1 : x < lo
          · by_cases h2 : hi < x
            · rw [if_pos h1] at E1
              rw [if_pos h2] at E2
              go_wp2
              go_roundw
              case rel => exact ⟨m + 1, by omega, by go_num, by rw [E1.out], by rw [E2.out], hF⟩
              case measure => simp [intOf]; omega
            · rw [if_pos h1] at E1
              rw [if_neg h2] at E2
              go_wp2
              go_roundw
              case rel => exact ⟨m + 1, by omega, by go_num, by rw [E1.out], by rw [E2.out], hF⟩
              case measure => simp [intOf]; omega
          · by_cases h2 : hi < x
            · rw [if_neg h1] at E1
              rw [if_pos h2] at E2
              go_wp2
              go_roundw
              case rel => exact ⟨m + 1, by omega, by go_num, by rw [E1.out], by rw [E2.out], hF⟩
              case measure => simp [intOf]; omega
            · rw [if_neg h1] at E1
              rw [if_neg h2] at E2
              go_wp2
              go_roundw
              case rel => exact ⟨m + 1, by omega, by go_num, by rw [E1.out], by rw [E2.out], hF⟩
              case measure => simp [intOf]; omega
        · have hmQ : m = Q := by omega
          have e1 : rngF xs q (k + 1) = if rngF xs q k < mxI xs k (q + 1) - mnI xs k (q + 1) then mxI xs k (q + 1) - mnI xs k (q + 1) else rngF xs q k := rfl
          rw [← HQ.out] at e1 hmn hmx hmm
          rw [hmQ]
          obtain ⟨lo, hlo⟩ : ∃ x, x = mnI xs k Q := ⟨_, rfl⟩
          obtain ⟨hi, hhi⟩ : ∃ x, x = mxI xs k Q := ⟨_, rfl⟩
          obtain ⟨mo, hmo⟩ : ∃ x, x = rngF xs q k := ⟨_, rfl⟩
          rw [← hlo] at e1 hmn hmm ⊢
          rw [← hhi] at e1 hmx hmm ⊢
          rw [← hmo] at e1 hrb ⊢
          have t3 : IntKind.i64.wrap (hi - lo) = hi - lo := IntWalk.i64_in _ (by omega)
          have E1 := Lib.hid e1
          clear e1 hlo hhi hmo hmQ
          by_cases h1 : mo < hi - lo
          · rw [if_pos h1] at E1
            go_wp2
            go_roundw
            case rel => exact ⟨k + 1, by omega, by go_num, by rw [E1.out], hF⟩
            case measure => simp [intOf]; omega
          · rw [if_neg h1] at E1
            go_wp2
            go_roundw
            case rel => exact ⟨k + 1, by omega, by go_num, by rw [E1.out], hF⟩
            case measure => simp [intOf]; omega
    · have hkn : k = n - q := by omega
      have HK := Lib.hid hkn
      have t1 : IntKind.i64.wrap ((k : Int) + (q : Int)) = (k : Int) + (q : Int) := IntWalk.i64_in _ (by omega)
      have hk2 : ¬ ((k : Int) + (q : Int) < (n : Int)) := by omega
      clear hkn hX
      go_wp2
      go_ret2
      exact ⟨by rw [← HK.out]; rfl, hF⟩
end Go.Proofs.Ythpakpljfgmkfaa
