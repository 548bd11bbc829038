/- Modified of the reference. -/
import Derived.Test.YthpakpljfgmkfaaW29
namespace Go.Proofs.Ythpakpljfgmkfaa
open Go.RowKit

/-- The first k sums of second differences. -/
def mdL (xs : List Int) (q k : Nat) : List Int := (List.range k).map fun i => md0 xs q i q
theorem mdL_succ (xs : List Int) (q k : Nat) : mdL xs q (k + 1) = mdL xs q k ++ [md0 xs q k q] := by simp [mdL, List.range_succ]
theorem mdL_abs (xs : List Int) (q k j : Nat) (h : j < k) : absd (mdL xs q k) j = mdA xs q j := by simp [absd, mdA, mdL, List.getD, List.getElem?_range h]
section
variable (A : Option Addr) (n c B : Nat) (xs : List Int) (d : Int) (w : World)
set_option maxHeartbeats 8000000 in
theorem rmodif_chk (hX : LI w A n B xs) (e0 : Int) (HE : Hid (chk xs = e0)) (h0 : e0 ≠ 0) :
    Calls Try.prog 28 #[.slice A n c, .int .i64 d] w fun e w' => e = .returned (.tuple #[.agg #[.int .i64 0, .int .i64 0], .int .i64 e0]) ∧ Frm w w' NoB := by
  obtain ⟨wA, hwA⟩ : ∃ wA, wA = w.alloc (.cells #[.int .i64 0, .int .i64 0] 41) := ⟨_, rfl⟩
  have hF : Frm w wA NoB := by rw [hwA]; exact (Frm.refl w NoB).alloc _
  have B4 : Blk wA w.heap.size 41 #[.int .i64 0, .int .i64 0] := by rw [hwA]; exact Blk.new _ _ _
  have hXA := hX.frm hF
  have hb : (e0 != 0) = true := by rw [bne_iff_ne]; exact h0
  clear h0
  go_enter Try.func28, Try.ntmps28
  go_wp2_with (first
    | (go_at_call 24; rw [← hwA]; (with_reducible refine (rcheck_b HE hXA).mono ?_); rintro e x1 ⟨rfl, f1⟩; replace hF := hF.trans f1 (fun _ _ h => h); replace B4 := B4.frm f1 (fun h => h); replace hXA := hXA.frm f1; have z0 := B4.frozen 0; have z1 := B4.frozen 1; have g0 := B4.cellIs (i := 0) rfl; have g1 := B4.cellIs (i := 1) rfl; clear f1))
  have B4a := (B4.put 0 (.int .i64 0)).put 1 (.int .i64 0)
  have hF4 := (hF.put (b := w.heap.size) (fun h => absurd h (by omega)) 0 (.int .i64 0)).put (b := w.heap.size) (fun h => absurd h (by omega)) 1 (.int .i64 0)
  have c0 := B4a.cellIs (i := 0) rfl
  have c1 := B4a.cellIs (i := 1) rfl
  refine bodyPost_ret (v := .tuple #[.agg #[(.int .i64 0), (.int .i64 0)], .int .i64 e0]) (by simp [results, Try.results28, go_sem, c0, c1]) rfl ?_
  exact ⟨rfl, hF4⟩
set_option maxHeartbeats 8000000 in
theorem rmodif_rng (hX : LI w A n B xs) (HE : Hid (chk xs = 0)) (hd : d < 1 ∨ (n : Int) < d ∨ (n : Int) < 3 * d) :
    Calls Try.prog 28 #[.slice A n c, .int .i64 d] w fun e w' => e = .returned (.tuple #[.agg #[.int .i64 0, .int .i64 0], .int .i64 3]) ∧ Frm w w' NoB := by
  obtain ⟨wA, hwA⟩ : ∃ wA, wA = w.alloc (.cells #[.int .i64 0, .int .i64 0] 41) := ⟨_, rfl⟩
  have hF : Frm w wA NoB := by rw [hwA]; exact (Frm.refl w NoB).alloc _
  have B4 : Blk wA w.heap.size 41 #[.int .i64 0, .int .i64 0] := by rw [hwA]; exact Blk.new _ _ _
  have hXA := hX.frm hF
  have hn := (chk_zero HE.out).1
  rw [hX.HN] at hn
  by_cases h1 : d < 1
  · have g1 : decide (d < 1) = true := decide_eq_true h1
    clear hd
    go_enter Try.func28, Try.ntmps28
    go_wp2_with (first
      | (go_at_call 24; rw [← hwA]; (with_reducible refine (rcheck_b HE hXA).mono ?_); rintro e x1 ⟨rfl, f1⟩; replace hF := hF.trans f1 (fun _ _ h => h); replace B4 := B4.frm f1 (fun h => h); replace hXA := hXA.frm f1; have z0 := B4.frozen 0; have z1 := B4.frozen 1; have g0 := B4.cellIs (i := 0) rfl; have g1 := B4.cellIs (i := 1) rfl; clear f1))
    have B4a := (B4.put 0 (.int .i64 0)).put 1 (.int .i64 0)
    have hF4 := (hF.put (b := w.heap.size) (fun h => absurd h (by omega)) 0 (.int .i64 0)).put (b := w.heap.size) (fun h => absurd h (by omega)) 1 (.int .i64 0)
    have c0 := B4a.cellIs (i := 0) rfl
    have c1 := B4a.cellIs (i := 1) rfl
    refine bodyPost_ret (v := .tuple #[.agg #[(.int .i64 0), (.int .i64 0)], .int .i64 3]) (by simp [results, Try.results28, go_sem, c0, c1]) rfl ?_
    exact ⟨rfl, hF4⟩
  · have g1 : decide (d < 1) = false := decide_eq_false h1
    by_cases h2 : (n : Int) < d
    · have g2 : decide ((n : Int) < d) = true := decide_eq_true h2
      clear hd
      go_enter Try.func28, Try.ntmps28
      go_wp2_with (first
        | (go_at_call 24; rw [← hwA]; (with_reducible refine (rcheck_b HE hXA).mono ?_); rintro e x1 ⟨rfl, f1⟩; replace hF := hF.trans f1 (fun _ _ h => h); replace B4 := B4.frm f1 (fun h => h); replace hXA := hXA.frm f1; have z0 := B4.frozen 0; have z1 := B4.frozen 1; have g0 := B4.cellIs (i := 0) rfl; have g1 := B4.cellIs (i := 1) rfl; clear f1))
      have B4a := (B4.put 0 (.int .i64 0)).put 1 (.int .i64 0)
      have hF4 := (hF.put (b := w.heap.size) (fun h => absurd h (by omega)) 0 (.int .i64 0)).put (b := w.heap.size) (fun h => absurd h (by omega)) 1 (.int .i64 0)
      have c0 := B4a.cellIs (i := 0) rfl
      have c1 := B4a.cellIs (i := 1) rfl
      refine bodyPost_ret (v := .tuple #[.agg #[(.int .i64 0), (.int .i64 0)], .int .i64 3]) (by simp [results, Try.results28, go_sem, c0, c1]) rfl ?_
      exact ⟨rfl, hF4⟩
    · have g2 : decide ((n : Int) < d) = false := decide_eq_false h2
      have t1 : IntKind.i64.wrap (3 * d) = 3 * d := IntWalk.i64_in _ (by omega)
      have g3 : decide ((n : Int) < 3 * d) = true := decide_eq_true (by omega)
      have h3 : (n : Int) < 3 * d := by omega
      clear hd
      go_enter Try.func28, Try.ntmps28
      go_wp2_with (first
        | (go_at_call 24; rw [← hwA]; (with_reducible refine (rcheck_b HE hXA).mono ?_); rintro e x1 ⟨rfl, f1⟩; replace hF := hF.trans f1 (fun _ _ h => h); replace B4 := B4.frm f1 (fun h => h); replace hXA := hXA.frm f1; have z0 := B4.frozen 0; have z1 := B4.frozen 1; have g0 := B4.cellIs (i := 0) rfl; have g1 := B4.cellIs (i := 1) rfl; clear f1))
      have B4a := (B4.put 0 (.int .i64 0)).put 1 (.int .i64 0)
      have hF4 := (hF.put (b := w.heap.size) (fun h => absurd h (by omega)) 0 (.int .i64 0)).put (b := w.heap.size) (fun h => absurd h (by omega)) 1 (.int .i64 0)
      have c0 := B4a.cellIs (i := 0) rfl
      have c1 := B4a.cellIs (i := 1) rfl
      refine bodyPost_ret (v := .tuple #[.agg #[(.int .i64 0), (.int .i64 0)], .int .i64 3]) (by simp [results, Try.results28, go_sem, c0, c1]) rfl ?_
      exact ⟨rfl, hF4⟩
end
section
variable (A : Option Addr) (n c B q m : Nat) (xs : List Int) (w : World)
set_option maxHeartbeats 8000000 in
theorem rmodif_ok (hX : LI w A n B xs) (HE : Hid (chk xs = 0)) (hq : 1 ≤ q) (hm : m + 3 * q = n + 1) (hm1 : 1 ≤ m) (hs : sqs (mdA xs q) m ≤ 9223372036854775807) :
    Calls Try.prog 28 #[.slice A n c, .int .i64 (q : Int)] w fun e w' => e = .returned (.tuple #[ratI (sqs (mdA xs q) m) (2 * q * q * m), .int .i64 0]) ∧ Frm w w' NoB := by
  obtain ⟨wA, hwA⟩ : ∃ wA, wA = w.alloc (.cells #[.int .i64 0, .int .i64 0] 41) := ⟨_, rfl⟩
  have hF : Frm w wA NoB := by rw [hwA]; exact (Frm.refl w NoB).alloc _
  have B4 : Blk wA w.heap.size 41 #[.int .i64 0, .int .i64 0] := by rw [hwA]; exact Blk.new _ _ _
  have hXA := hX.frm hF
  have hck := chk_zero HE.out
  have hn1 := hck.1
  rw [hX.HN] at hn1
  have HO : Hid (okl xs xs.length) := hck.2
  obtain ⟨Q3, hQ3⟩ : ∃ Q3, Q3 = 3 * q := ⟨_, rfl⟩
  obtain ⟨Q2, hQ2⟩ : ∃ Q2, Q2 = 2 * q := ⟨_, rfl⟩
  obtain ⟨QQ, hQQ⟩ : ∃ QQ, QQ = 2 * q * q := ⟨_, rfl⟩
  obtain ⟨D, hDD⟩ : ∃ D, D = 2 * q * q * m := ⟨_, rfl⟩
  have hQQb : QQ ≤ 682 * 341 := by rw [hQQ]; exact Nat.mul_le_mul (by omega) (by omega)
  have hDb : D ≤ 682 * 341 * 1024 := by rw [hDD]; exact Nat.mul_le_mul (by rw [← hQQ]; exact hQQb) (by omega)
  have t1 : IntKind.i64.wrap (3 * (q : Int)) = (Q3 : Int) := by rw [IntWalk.i64_in _ (by omega)]; omega
  obtain ⟨m0, hm0⟩ : ∃ m0 : Nat, m0 + 1 = m := ⟨m - 1, by omega⟩
  have t2 : IntKind.i64.wrap ((n : Int) - (Q3 : Int)) = (m0 : Int) := by rw [IntWalk.i64_in _ (by omega)]; omega
  have t2' : IntKind.i64.wrap ((m0 : Int) + 1) = (m : Int) := by rw [IntWalk.i64_in _ (by omega)]; omega
  have t3 : IntKind.i64.wrap (2 * (q : Int)) = (Q2 : Int) := by rw [IntWalk.i64_in _ (by omega)]; omega
  have t4 : IntKind.i64.wrap ((Q2 : Int) * (q : Int)) = (QQ : Int) := by rw [← Int.natCast_mul, hQ2, ← hQQ, IntWalk.i64_in _ (by omega)]
  have t5 : IntKind.i64.wrap ((QQ : Int) * (m : Int)) = (D : Int) := by rw [← Int.natCast_mul, hQQ, ← hDD, IntWalk.i64_in _ (by omega)]
  have g1 : decide ((q : Int) < 1) = false := decide_eq_false (by omega)
  have g2 : decide ((n : Int) < (q : Int)) = false := decide_eq_false (by omega)
  have g2' : decide (n < q) = false := decide_eq_false (by omega)
  have g3 : decide ((n : Int) < (Q3 : Int)) = false := decide_eq_false (by omega)
  have g3' : decide (n < Q3) = false := decide_eq_false (by omega)
  have HSQ : Hid (∀ (w : World) {A' : Option Addr} {c' : Nat}, LI w A' m w.heap.size (mdL xs q m) → Calls Try.prog 41 #[.slice A' m c'] w fun e w' => e = .returned (if sqs (mdA xs q) m ≤ 9223372036854775807 then .tuple #[.int .i64 (sqs (mdA xs q) m : Nat), .bool true] else .tuple #[.int .i64 0, .bool false]) ∧ Frm w w' NoB) := by
    intro w A' c' hl
    have h := squares_t A' m c' w.heap.size (mdL xs q m) w hl (fun j hj => by rw [mdL_abs xs q m j hj]; have := md0_bounds HO.out (j := j) (q := q) (by rw [hX.HN]; omega) q (Nat.le_refl _); unfold mdA; omega)
    rw [sqs_congr m (fun j hj => mdL_abs xs q m j hj)] at h
    exact h
  have HXN := Lib.hid hX.HN
  have HQ2 : Hid (m + 3 * q = n + 1 ∧ m0 + 1 = m) := by unfold Hid; omega
  have hmb : m ≤ 1024 := by omega
  clear hQ2 hQ3 hQQ hck hm0
  rw [if_pos hs] at HSQ
  obtain ⟨i0, hi, hz0, hz1, hz2⟩ := info_parts int_info
  obtain ⟨S, hS⟩ : ∃ S, S = sqs (mdA xs q) m := ⟨_, rfl⟩
  rw [← hS] at hs HSQ ⊢
  have hquo := fun w => rat_t S (2 * q * q * m) w (by have h1 := Nat.mul_pos (Nat.mul_pos (show 0 < 2 * q by omega) (show 0 < q by omega)) (show 0 < m by omega); exact h1) hs (by rw [← hDD]; omega)
  have hD : ((2 * q * q * m : Nat) : Int) = (D : Int) := by rw [hDD]
  have hrat : ratI S (2 * q * q * m) = .agg #[.int .i64 (S / Nat.gcd S (2 * q * q * m) : Nat), .int .i64 (2 * q * q * m / Nat.gcd S (2 * q * q * m) : Nat)] := rfl
  rw [hD] at hquo
  rw [hrat]
  obtain ⟨X, hXX⟩ : ∃ X : Nat, X = S / Nat.gcd S (2 * q * q * m) := ⟨_, rfl⟩
  obtain ⟨Y, hYY⟩ : ∃ Y : Nat, Y = 2 * q * q * m / Nat.gcd S (2 * q * q * m) := ⟨_, rfl⟩
  rw [← hXX, ← hYY] at hquo ⊢
  have HQUO := Lib.hid hquo
  clear hquo hD hrat hXX hYY hS hs hDD hm
  go_enter Try.func28, Try.ntmps28
  go_wp2_with (first
    | (go_at_call 24; rw [← hwA]; (with_reducible refine (rcheck_b HE hXA).mono ?_); rintro e x1 ⟨rfl, f1⟩; replace hF := hF.trans f1 (fun _ _ h => h); replace B4 := B4.frm f1 (fun h => h); replace hXA := hXA.frm f1; have z0 := B4.frozen 0; have z1 := B4.frozen 1; have g0 := B4.cellIs (i := 0) rfl; have g1 := B4.cellIs (i := 1) rfl; clear f1))
  go_loopw [7, 8, 9, 10] (fun v i _ _ wr => ∃ k : Nat, k ≤ m ∧ i = .int .i64 k ∧ OwnI wr x1.heap.size v k (mdL xs q k) ∧ Frm x1 wr NoB) (fun _ i _ _ _ => m - (intOf i).toNat)
  case atStart => exact ⟨0, Nat.zero_le _, rfl, World.ownsRow_nil _ _ _ _, Frm.refl x1 _⟩
  obtain ⟨k, hk, rfl, hown, hG⟩ := hrel
  by_cases hlt : k < m
  · have hQm := HQ2.out.1
    have hQ1 := HQ2.out.2
    have v1 : k ≤ m0 := by omega
    have v2 : decide ((k : Int) ≤ (m0 : Int)) = true := decide_eq_true (by omega)
    have v3 : decide (k ≤ m0) = true := decide_eq_true v1
    have hsu := mdL_succ xs q k
    obtain ⟨V, hV⟩ : ∃ V, V = md0 xs q k q := ⟨_, rfl⟩
    rw [← hV] at hsu
    have HS := Lib.hid hsu
    have HV := Lib.hid hV
    have t6 : IntKind.i64.wrap ((k : Int) + (q : Int)) = ((k + q : Nat) : Int) := by rw [IntWalk.i64_in _ (by omega)]; omega
    obtain ⟨KQ, hKQ⟩ : ∃ KQ, KQ = k + q := ⟨_, rfl⟩
    rw [← hKQ] at t6
    have hok := hown
    have HR : Hid (k < m ∧ KQ = k + q ∧ k + 3 * q ≤ n) := by unfold Hid; omega
    clear hQm hQ1 hsu hV hX hF B4 hKQ
    go_wp2
    go_loopw [9, 10] (fun s i ws => ∃ r : Nat, r ≤ q ∧ i = .int .i64 ((k + r : Nat) : Int) ∧ s = .int .i64 (md0 xs q k r) ∧ Frm x1 ws NoB ∧ Frm wr ws NoB) (fun _ i _ => k + q - (intOf i).toNat)
    case atStart => exact ⟨0, Nat.zero_le _, by go_num, rfl, hG, Frm.refl wr _⟩
    case round =>
      clear hG
      obtain ⟨r, hr, rfl, rfl, hG, hI⟩ := hrel
      by_cases hlt2 : r < q
      · have hRR := HR.out
        have hX2 := hXA.frm hG
        have hse : md0 xs q k (r + 1) = md0 xs q k r + s2 xs (k + r) q := rfl
        have hsb := s2_bounds HO.out (i := k + r) (q := q) (by rw [HXN.out]; omega)
        have hmb2 := md0_bounds HO.out (j := k) (q := q) (by rw [HXN.out]; omega) r (by omega)
        have hr1024 : (r : Int) ≤ 1024 := by omega
        have hsec := fun wr (h : LI wr A n B xs) => rsecond_b (c := c) (i := k + r) (q := q) h HO hn1 (by omega)
        obtain ⟨J, hJ⟩ : ∃ J, J = k + r := ⟨_, rfl⟩
        have hJb : J < KQ := by omega
        have hJ1 : J ≤ 4096 := by omega
        have hJs : Hid (J + 1 = k + (r + 1)) := by unfold Hid; omega
        have hJm : Hid (J = k + r ∧ KQ = k + q) := by unfold Hid; omega
        rw [← hJ] at hsec hse hsb ⊢
        obtain ⟨S, hS⟩ : ∃ S, S = md0 xs q k r := ⟨_, rfl⟩
        obtain ⟨x, hx⟩ : ∃ x, x = s2 xs J q := ⟨_, rfl⟩
        rw [← hx] at hsec hse hsb
        rw [← hS] at hse hmb2 ⊢
        have t7 : IntKind.i64.wrap (S + x) = S + x := IntWalk.i64_in _ (by omega)
        have HSE := Lib.hid hse
        have HSEC := Lib.hid hsec
        have hj1 : (J : Int) < (KQ : Int) := by omega
        clear hse hS hx hsec hJ hRR hsb hmb2 hown hXA
        go_wp2_with (first
          | (go_at_call 40; (with_reducible refine (HSEC.out _ hX2).mono ?_); rintro e x2 ⟨rfl, f2⟩; replace hG := hG.trans f2 (fun _ _ h => h); replace hI := hI.trans f2 (fun _ _ h => h); clear f2))
        go_roundw
        case rel => exact ⟨r + 1, by omega, by rw [← hJs.out]; go_num, by rw [HSE.out], hG, hI⟩
        case measure => have := hJm.out; simp [intOf]; omega
      · obtain rfl : r = q := by omega
        have hJb : ¬ (k + r : Nat) < KQ := by have := HR.out; omega
        obtain ⟨J, hJ⟩ : ∃ J, J = k + r := ⟨_, rfl⟩
        rw [← hJ] at hJb ⊢
        have hj1 : ¬ (J : Int) < (KQ : Int) := by omega
        rw [← HV.out]
        replace hown := OwnI.frm hown hI
        have hsz := hG.size
        clear hJ hI hXA
        go_wp2_with (first
          | (at_builtin; refine wpList_append_own _ rfl _ _ 23 rfl x1.heap.size 3 i0 (.int .i64 0) 1 8 Try.underlying23 hi hz0 hz1 hz2 rfl (by decide) _ _ _ rfl (hown.alloc _) ⟨wr.heap.size, 0, none⟩ 1 1 [.int .i64 V] rfl rfl ?c1 ?c2 ?c3 ?c4 ?c5 ?_)
          | go_in)
        case c2 => first | rfl | (intro u hu; simp at hu; subst hu; rfl)
        case c3 => first | omega | (unfold maxLen; omega)
        case c4 => omega
        case c5 => first | omega | (simp; omega)
        intro v' w1 hown' hgrow _
        have hown3 : OwnI w1 x1.heap.size v' (k + 1) (mdL xs r (k + 1)) := by rw [HS.out]; simpa [OwnI] using hown'
        have hG3 := (hG.alloc (.cells #[.int .i64 V] 3)).grown hgrow (fun j hj hlt => absurd (hown.lt j hj).1 (by omega))
        clear hown' hgrow hown hG
        go_wp2
        go_roundw
        case rel => exact ⟨k + 1, by omega, by go_num, hown3, hG3⟩
        case measure => simp [intOf]; omega
  · have hkm : k = m := by omega
    have hQm := HQ2.out.1
    have hQ1 := HQ2.out.2
    have v1 : ¬ k ≤ m0 := by omega
    have v2 : decide ((k : Int) ≤ (m0 : Int)) = false := decide_eq_false (by omega)
    have v3 : decide (k ≤ m0) = false := decide_eq_false v1
    rw [hkm] at hown
    obtain ⟨A', c', rfl, hcc, hl⟩ := hown.li (by omega)
    replace hF := hF.trans hG (fun _ _ h => h)
    replace B4 := B4.frm hG (fun h => h)
    have z0 := B4.frozen 0; have z1 := B4.frozen 1; have g0 := B4.cellIs (i := 0) rfl; have g1 := B4.cellIs (i := 1) rfl
    clear hQm hQ1 hkm hX hXA hG hown hcc
    go_wp2_with (first
      | (go_at_call 41; (with_reducible refine (HSQ.out _ hl).mono ?_); rintro e x3 ⟨rfl, f1⟩; replace hF := hF.trans f1 (fun _ _ h => h); replace B4 := B4.frm f1 (fun h => h); have z0 := B4.frozen 0; have z1 := B4.frozen 1; have g0 := B4.cellIs (i := 0) rfl; have g1 := B4.cellIs (i := 1) rfl; clear f1)
      | (go_at_call 42; (with_reducible refine (HQUO.out _).mono ?_); rintro e x4 ⟨rfl, f1⟩; replace hF := hF.trans f1 (fun _ _ h => h); replace B4 := B4.frm f1 (fun h => h); have z0 := B4.frozen 0; have z1 := B4.frozen 1; have g0 := B4.cellIs (i := 0) rfl; have g1 := B4.cellIs (i := 1) rfl; clear f1))
    have B4a := (B4.put 0 (.int .i64 (X : Int))).put 1 (.int .i64 (Y : Int))
    have hF4 := (hF.put (b := w.heap.size) (fun h => absurd h (by omega)) 0 (.int .i64 (X : Int))).put (b := w.heap.size) (fun h => absurd h (by omega)) 1 (.int .i64 (Y : Int))
    have c0 := B4a.cellIs (i := 0) rfl
    have c1 := B4a.cellIs (i := 1) rfl
    refine bodyPost_ret (v := .tuple #[.agg #[(.int .i64 (X : Int)), (.int .i64 (Y : Int))], .int .i64 0]) (by simp [results, Try.results28, go_sem, c0, c1]) rfl ?_
    exact ⟨rfl, hF4⟩
set_option maxHeartbeats 8000000 in
theorem rmodif_over (hX : LI w A n B xs) (HE : Hid (chk xs = 0)) (hq : 1 ≤ q) (hm : m + 3 * q = n + 1) (hm1 : 1 ≤ m) (hs : 9223372036854775807 < sqs (mdA xs q) m) :
    Calls Try.prog 28 #[.slice A n c, .int .i64 (q : Int)] w fun e w' => e = .returned (.tuple #[.agg #[.int .i64 0, .int .i64 0], .int .i64 4]) ∧ Frm w w' NoB := by
  obtain ⟨wA, hwA⟩ : ∃ wA, wA = w.alloc (.cells #[.int .i64 0, .int .i64 0] 41) := ⟨_, rfl⟩
  have hF : Frm w wA NoB := by rw [hwA]; exact (Frm.refl w NoB).alloc _
  have B4 : Blk wA w.heap.size 41 #[.int .i64 0, .int .i64 0] := by rw [hwA]; exact Blk.new _ _ _
  have hXA := hX.frm hF
  have hck := chk_zero HE.out
  have hn1 := hck.1
  rw [hX.HN] at hn1
  have HO : Hid (okl xs xs.length) := hck.2
  obtain ⟨Q3, hQ3⟩ : ∃ Q3, Q3 = 3 * q := ⟨_, rfl⟩
  obtain ⟨Q2, hQ2⟩ : ∃ Q2, Q2 = 2 * q := ⟨_, rfl⟩
  obtain ⟨QQ, hQQ⟩ : ∃ QQ, QQ = 2 * q * q := ⟨_, rfl⟩
  obtain ⟨D, hDD⟩ : ∃ D, D = 2 * q * q * m := ⟨_, rfl⟩
  have hQQb : QQ ≤ 682 * 341 := by rw [hQQ]; exact Nat.mul_le_mul (by omega) (by omega)
  have hDb : D ≤ 682 * 341 * 1024 := by rw [hDD]; exact Nat.mul_le_mul (by rw [← hQQ]; exact hQQb) (by omega)
  have t1 : IntKind.i64.wrap (3 * (q : Int)) = (Q3 : Int) := by rw [IntWalk.i64_in _ (by omega)]; omega
  obtain ⟨m0, hm0⟩ : ∃ m0 : Nat, m0 + 1 = m := ⟨m - 1, by omega⟩
  have t2 : IntKind.i64.wrap ((n : Int) - (Q3 : Int)) = (m0 : Int) := by rw [IntWalk.i64_in _ (by omega)]; omega
  have t2' : IntKind.i64.wrap ((m0 : Int) + 1) = (m : Int) := by rw [IntWalk.i64_in _ (by omega)]; omega
  have t3 : IntKind.i64.wrap (2 * (q : Int)) = (Q2 : Int) := by rw [IntWalk.i64_in _ (by omega)]; omega
  have t4 : IntKind.i64.wrap ((Q2 : Int) * (q : Int)) = (QQ : Int) := by rw [← Int.natCast_mul, hQ2, ← hQQ, IntWalk.i64_in _ (by omega)]
  have t5 : IntKind.i64.wrap ((QQ : Int) * (m : Int)) = (D : Int) := by rw [← Int.natCast_mul, hQQ, ← hDD, IntWalk.i64_in _ (by omega)]
  have g1 : decide ((q : Int) < 1) = false := decide_eq_false (by omega)
  have g2 : decide ((n : Int) < (q : Int)) = false := decide_eq_false (by omega)
  have g2' : decide (n < q) = false := decide_eq_false (by omega)
  have g3 : decide ((n : Int) < (Q3 : Int)) = false := decide_eq_false (by omega)
  have g3' : decide (n < Q3) = false := decide_eq_false (by omega)
  have HSQ : Hid (∀ (w : World) {A' : Option Addr} {c' : Nat}, LI w A' m w.heap.size (mdL xs q m) → Calls Try.prog 41 #[.slice A' m c'] w fun e w' => e = .returned (if sqs (mdA xs q) m ≤ 9223372036854775807 then .tuple #[.int .i64 (sqs (mdA xs q) m : Nat), .bool true] else .tuple #[.int .i64 0, .bool false]) ∧ Frm w w' NoB) := by
    intro w A' c' hl
    have h := squares_t A' m c' w.heap.size (mdL xs q m) w hl (fun j hj => by rw [mdL_abs xs q m j hj]; have := md0_bounds HO.out (j := j) (q := q) (by rw [hX.HN]; omega) q (Nat.le_refl _); unfold mdA; omega)
    rw [sqs_congr m (fun j hj => mdL_abs xs q m j hj)] at h
    exact h
  have HXN := Lib.hid hX.HN
  have HQ2 : Hid (m + 3 * q = n + 1 ∧ m0 + 1 = m) := by unfold Hid; omega
  have hmb : m ≤ 1024 := by omega
  clear hQ2 hQ3 hQQ hck hm0
  rw [if_neg (show ¬ sqs (mdA xs q) m ≤ 9223372036854775807 by omega)] at HSQ
  obtain ⟨i0, hi, hz0, hz1, hz2⟩ := info_parts int_info
  clear hs hDD hm
  go_enter Try.func28, Try.ntmps28
  go_wp2_with (first
    | (go_at_call 24; rw [← hwA]; (with_reducible refine (rcheck_b HE hXA).mono ?_); rintro e x1 ⟨rfl, f1⟩; replace hF := hF.trans f1 (fun _ _ h => h); replace B4 := B4.frm f1 (fun h => h); replace hXA := hXA.frm f1; have z0 := B4.frozen 0; have z1 := B4.frozen 1; have g0 := B4.cellIs (i := 0) rfl; have g1 := B4.cellIs (i := 1) rfl; clear f1))
  go_loopw [7, 8, 9, 10] (fun v i _ _ wr => ∃ k : Nat, k ≤ m ∧ i = .int .i64 k ∧ OwnI wr x1.heap.size v k (mdL xs q k) ∧ Frm x1 wr NoB) (fun _ i _ _ _ => m - (intOf i).toNat)
  case atStart => exact ⟨0, Nat.zero_le _, rfl, World.ownsRow_nil _ _ _ _, Frm.refl x1 _⟩
  obtain ⟨k, hk, rfl, hown, hG⟩ := hrel
  by_cases hlt : k < m
  · have hQm := HQ2.out.1
    have hQ1 := HQ2.out.2
    have v1 : k ≤ m0 := by omega
    have v2 : decide ((k : Int) ≤ (m0 : Int)) = true := decide_eq_true (by omega)
    have v3 : decide (k ≤ m0) = true := decide_eq_true v1
    have hsu := mdL_succ xs q k
    obtain ⟨V, hV⟩ : ∃ V, V = md0 xs q k q := ⟨_, rfl⟩
    rw [← hV] at hsu
    have HS := Lib.hid hsu
    have HV := Lib.hid hV
    have t6 : IntKind.i64.wrap ((k : Int) + (q : Int)) = ((k + q : Nat) : Int) := by rw [IntWalk.i64_in _ (by omega)]; omega
    obtain ⟨KQ, hKQ⟩ : ∃ KQ, KQ = k + q := ⟨_, rfl⟩
    rw [← hKQ] at t6
    have hok := hown
    have HR : Hid (k < m ∧ KQ = k + q ∧ k + 3 * q ≤ n) := by unfold Hid; omega
    clear hQm hQ1 hsu hV hX hF B4 hKQ
    go_wp2
    go_loopw [9, 10] (fun s i ws => ∃ r : Nat, r ≤ q ∧ i = .int .i64 ((k + r : Nat) : Int) ∧ s = .int .i64 (md0 xs q k r) ∧ Frm x1 ws NoB ∧ Frm wr ws NoB) (fun _ i _ => k + q - (intOf i).toNat)
    case atStart => exact ⟨0, Nat.zero_le _, by go_num, rfl, hG, Frm.refl wr _⟩
    case round =>
      clear hG
      obtain ⟨r, hr, rfl, rfl, hG, hI⟩ := hrel
      by_cases hlt2 : r < q
      · have hRR := HR.out
        have hX2 := hXA.frm hG
        have hse : md0 xs q k (r + 1) = md0 xs q k r + s2 xs (k + r) q := rfl
        have hsb := s2_bounds HO.out (i := k + r) (q := q) (by rw [HXN.out]; omega)
        have hmb2 := md0_bounds HO.out (j := k) (q := q) (by rw [HXN.out]; omega) r (by omega)
        have hr1024 : (r : Int) ≤ 1024 := by omega
        have hsec := fun wr (h : LI wr A n B xs) => rsecond_b (c := c) (i := k + r) (q := q) h HO hn1 (by omega)
        obtain ⟨J, hJ⟩ : ∃ J, J = k + r := ⟨_, rfl⟩
        have hJb : J < KQ := by omega
        have hJ1 : J ≤ 4096 := by omega
        have hJs : Hid (J + 1 = k + (r + 1)) := by unfold Hid; omega
        have hJm : Hid (J = k + r ∧ KQ = k + q) := by unfold Hid; omega
        rw [← hJ] at hsec hse hsb ⊢
        obtain ⟨S, hS⟩ : ∃ S, S = md0 xs q k r := ⟨_, rfl⟩
        obtain ⟨x, hx⟩ : ∃ x, x = s2 xs J q := ⟨_, rfl⟩
        rw [← hx] at hsec hse hsb
        rw [← hS] at hse hmb2 ⊢
        have t7 : IntKind.i64.wrap (S + x) = S + x := IntWalk.i64_in _ (by omega)
        have HSE := Lib.hid hse
        have HSEC := Lib.hid hsec
        have hj1 : (J : Int) < (KQ : Int) := by omega
        clear hse hS hx hsec hJ hRR hsb hmb2 hown hXA
        go_wp2_with (first
          | (go_at_call 40; (with_reducible refine (HSEC.out _ hX2).mono ?_); rintro e x2 ⟨rfl, f2⟩; replace hG := hG.trans f2 (fun _ _ h => h); replace hI := hI.trans f2 (fun _ _ h => h); clear f2))
        go_roundw
        case rel => exact ⟨r + 1, by omega, by rw [← hJs.out]; go_num, by rw [HSE.out], hG, hI⟩
        case measure => have := hJm.out; simp [intOf]; omega
      · obtain rfl : r = q := by omega
        have hJb : ¬ (k + r : Nat) < KQ := by have := HR.out; omega
        obtain ⟨J, hJ⟩ : ∃ J, J = k + r := ⟨_, rfl⟩
        rw [← hJ] at hJb ⊢
        have hj1 : ¬ (J : Int) < (KQ : Int) := by omega
        rw [← HV.out]
        replace hown := OwnI.frm hown hI
        have hsz := hG.size
        clear hJ hI hXA
        go_wp2_with (first
          | (at_builtin; refine wpList_append_own _ rfl _ _ 23 rfl x1.heap.size 3 i0 (.int .i64 0) 1 8 Try.underlying23 hi hz0 hz1 hz2 rfl (by decide) _ _ _ rfl (hown.alloc _) ⟨wr.heap.size, 0, none⟩ 1 1 [.int .i64 V] rfl rfl ?c1 ?c2 ?c3 ?c4 ?c5 ?_)
          | go_in)
        case c2 => first | rfl | (intro u hu; simp at hu; subst hu; rfl)
        case c3 => first | omega | (unfold maxLen; omega)
        case c4 => omega
        case c5 => first | omega | (simp; omega)
        intro v' w1 hown' hgrow _
        have hown3 : OwnI w1 x1.heap.size v' (k + 1) (mdL xs r (k + 1)) := by rw [HS.out]; simpa [OwnI] using hown'
        have hG3 := (hG.alloc (.cells #[.int .i64 V] 3)).grown hgrow (fun j hj hlt => absurd (hown.lt j hj).1 (by omega))
        clear hown' hgrow hown hG
        go_wp2
        go_roundw
        case rel => exact ⟨k + 1, by omega, by go_num, hown3, hG3⟩
        case measure => simp [intOf]; omega
  · have hkm : k = m := by omega
    have hQm := HQ2.out.1
    have hQ1 := HQ2.out.2
    have v1 : ¬ k ≤ m0 := by omega
    have v2 : decide ((k : Int) ≤ (m0 : Int)) = false := decide_eq_false (by omega)
    have v3 : decide (k ≤ m0) = false := decide_eq_false v1
    rw [hkm] at hown
    obtain ⟨A', c', rfl, hcc, hl⟩ := hown.li (by omega)
    replace hF := hF.trans hG (fun _ _ h => h)
    replace B4 := B4.frm hG (fun h => h)
    have z0 := B4.frozen 0; have z1 := B4.frozen 1; have g0 := B4.cellIs (i := 0) rfl; have g1 := B4.cellIs (i := 1) rfl
    clear hQm hQ1 hkm hX hXA hG hown hcc
    go_wp2_with (first
      | (go_at_call 41; (with_reducible refine (HSQ.out _ hl).mono ?_); rintro e x3 ⟨rfl, f1⟩; replace hF := hF.trans f1 (fun _ _ h => h); replace B4 := B4.frm f1 (fun h => h); have z0 := B4.frozen 0; have z1 := B4.frozen 1; have g0 := B4.cellIs (i := 0) rfl; have g1 := B4.cellIs (i := 1) rfl; clear f1))
    have B4a := (B4.put 0 (.int .i64 0)).put 1 (.int .i64 0)
    have hF4 := (hF.put (b := w.heap.size) (fun h => absurd h (by omega)) 0 (.int .i64 0)).put (b := w.heap.size) (fun h => absurd h (by omega)) 1 (.int .i64 0)
    have c0 := B4a.cellIs (i := 0) rfl
    have c1 := B4a.cellIs (i := 1) rfl
    refine bodyPost_ret (v := .tuple #[.agg #[(.int .i64 0), (.int .i64 0)], .int .i64 4]) (by simp [results, Try.results28, go_sem, c0, c1]) rfl ?_
    exact ⟨rfl, hF4⟩
end
section
variable {A : Option Addr} {n c B : Nat} {xs : List Int} {d e0 : Int} {R : Value} {w : World}
/-- Modified of the reference. -/
theorem rmodif_s (HE : Hid (moE xs d = e0)) (HR : Hid (moR xs d = R)) (hX : LI w A n B xs) :
    Calls Try.prog 28 #[.slice A n c, .int .i64 d] w fun e w' => e = .returned (.tuple #[R, .int .i64 e0]) ∧ Frm w w' NoB := by
  rw [← HE.out, ← HR.out]
  by_cases h0 : chk xs = 0
  · by_cases h1 : d < 1 ∨ (xs.length : Int) < d ∨ (xs.length : Int) < 3 * d
    · have he : moE xs d = 3 := by unfold moE; rw [if_neg (not_not_intro h0), if_pos h1]
      unfold moR
      rw [he, if_neg (by decide)]
      exact rmodif_rng A n c B xs d w hX h0 (by rw [← hX.HN]; exact h1)
    · obtain ⟨q, rfl⟩ : ∃ q : Nat, d = (q : Int) := ⟨d.toNat, by omega⟩
      have hN := hX.HN
      have hq : 1 ≤ q := by omega
      have hm : (xs.length + 1 - 3 * q) + 3 * q = n + 1 := by omega
      have hm1 : 1 ≤ xs.length + 1 - 3 * q := by omega
      by_cases h2 : sqs (mdA xs q) (xs.length + 1 - 3 * q) ≤ 9223372036854775807
      · have he : moE xs (q : Int) = 0 := by unfold moE; rw [if_neg (not_not_intro h0), if_neg h1, Int.toNat_natCast, if_pos h2]
        unfold moR
        rw [he, if_pos rfl, Int.toNat_natCast]
        exact rmodif_ok A n c B q (xs.length + 1 - 3 * q) xs w hX h0 hq hm hm1 h2
      · have he : moE xs (q : Int) = 4 := by unfold moE; rw [if_neg (not_not_intro h0), if_neg h1, Int.toNat_natCast, if_neg h2]
        unfold moR
        rw [he, if_neg (by decide)]
        exact rmodif_over A n c B q (xs.length + 1 - 3 * q) xs w hX h0 hq hm hm1 (by omega)
  · have he : moE xs d = chk xs := by unfold moE; rw [if_pos h0]
    unfold moR
    rw [he, if_neg h0]
    exact rmodif_chk A n c B xs d w hX (chk xs) rfl h0
end
end Go.Proofs.Ythpakpljfgmkfaa
