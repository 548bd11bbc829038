/- Allan of the reference. -/
import Derived.Test.YthpakpljfgmkfaaW28
import Derived.Test.YthpakpljfgmkfaaW22
namespace Go.Proofs.Ythpakpljfgmkfaa
open Go.RowKit

theorem OwnI.frm {w w' : World} {B n : Nat} {v : Value} {ks : List Int} (h : OwnI w B v n ks) (f : Frm w w' NoB) : OwnI w' B v n ks := by
  refine ⟨h.1, ?_⟩
  rcases h.2 with e | ⟨g, cap, cur, rfl, hb, hg, hle, hcap, hsz, htk⟩
  · exact .inl e
  · have hlt : g < w.heap.size := by
      rcases Nat.lt_or_ge g w.heap.size with h | h
      · exact h
      · rw [Array.getElem?_eq_none h] at hg; cases hg
    exact .inr ⟨g, cap, cur, rfl, hb, (f.block g hlt (fun h => h)).trans hg, hle, hcap, hsz, htk⟩
theorem rsecond_b {A : Option Addr} {n c i q B : Nat} {xs : List Int} {w : World} (hX : LI w A n B xs) (HO : Hid (okl xs xs.length)) (hn : n ≤ 1024) (hi : i + 2 * q < n) :
    Calls Try.prog 40 #[.slice A n c, .int .i64 (i : Int), .int .i64 (q : Int)] w fun e w' => e = .returned (.int .i64 (s2 xs i q)) ∧ Frm w w' NoB := rsecond_t A n c i q B xs w hX HO.out hn hi
/-- The first k second differences. -/
def sdL (xs : List Int) (q k : Nat) : List Int := (List.range k).map fun i => s2 xs i q
theorem sdL_succ (xs : List Int) (q k : Nat) : sdL xs q (k + 1) = sdL xs q k ++ [s2 xs k q] := by simp [sdL, List.range_succ]
theorem sdL_abs (xs : List Int) (q k j : Nat) (h : j < k) : absd (sdL xs q k) j = a2 xs q j := by simp [absd, a2, sdL, List.getD, List.getElem?_range h]
section
variable (A : Option Addr) (n c B : Nat) (xs : List Int) (d : Int) (w : World)
set_option maxHeartbeats 8000000 in
theorem rallan_chk (hX : LI w A n B xs) (e0 : Int) (HE : Hid (chk xs = e0)) (h0 : e0 ≠ 0) :
    Calls Try.prog 26 #[.slice A n c, .int .i64 d] w fun e w' => e = .returned (.tuple #[.agg #[.int .i64 0, .int .i64 0], .int .i64 e0]) ∧ Frm w w' NoB := by
  obtain ⟨wA, hwA⟩ : ∃ wA, wA = w.alloc (.cells #[.int .i64 0, .int .i64 0] 41) := ⟨_, rfl⟩
  have hF : Frm w wA NoB := by rw [hwA]; exact (Frm.refl w NoB).alloc _
  have B4 : Blk wA w.heap.size 41 #[.int .i64 0, .int .i64 0] := by rw [hwA]; exact Blk.new _ _ _
  have hXA := hX.frm hF
  have hb : (e0 != 0) = true := by rw [bne_iff_ne]; exact h0
  clear h0
  go_enter Try.func26, Try.ntmps26
  go_wp2_with (first
    | (go_at_call 24; rw [← hwA]; (with_reducible refine (rcheck_b HE hXA).mono ?_); rintro e x1 ⟨rfl, f1⟩; replace hF := hF.trans f1 (fun _ _ h => h); replace B4 := B4.frm f1 (fun h => h); replace hXA := hXA.frm f1; have z0 := B4.frozen 0; have z1 := B4.frozen 1; have g0 := B4.cellIs (i := 0) rfl; have g1 := B4.cellIs (i := 1) rfl; clear f1))
  have B4a := (B4.put 0 (.int .i64 0)).put 1 (.int .i64 0)
  have hF4 := (hF.put (b := w.heap.size) (fun h => absurd h (by omega)) 0 (.int .i64 0)).put (b := w.heap.size) (fun h => absurd h (by omega)) 1 (.int .i64 0)
  have c0 := B4a.cellIs (i := 0) rfl
  have c1 := B4a.cellIs (i := 1) rfl
  refine bodyPost_ret (v := .tuple #[.agg #[(.int .i64 0), (.int .i64 0)], .int .i64 e0]) (by simp [results, Try.results26, go_sem, c0, c1]) rfl ?_
  exact ⟨rfl, hF4⟩
set_option maxHeartbeats 8000000 in
theorem rallan_rng (hX : LI w A n B xs) (HE : Hid (chk xs = 0)) (hd : d < 1 ∨ (n : Int) < d ∨ (n : Int) ≤ 2 * d) :
    Calls Try.prog 26 #[.slice A n c, .int .i64 d] w fun e w' => e = .returned (.tuple #[.agg #[.int .i64 0, .int .i64 0], .int .i64 3]) ∧ Frm w w' NoB := by
  obtain ⟨wA, hwA⟩ : ∃ wA, wA = w.alloc (.cells #[.int .i64 0, .int .i64 0] 41) := ⟨_, rfl⟩
  have hF : Frm w wA NoB := by rw [hwA]; exact (Frm.refl w NoB).alloc _
  have B4 : Blk wA w.heap.size 41 #[.int .i64 0, .int .i64 0] := by rw [hwA]; exact Blk.new _ _ _
  have hXA := hX.frm hF
  have hn := (chk_zero HE.out).1
  rw [hX.HN] at hn
  by_cases h1 : d < 1
  · have g1 : decide (d < 1) = true := decide_eq_true h1
    clear hd
    go_enter Try.func26, Try.ntmps26
    go_wp2_with (first
      | (go_at_call 24; rw [← hwA]; (with_reducible refine (rcheck_b HE hXA).mono ?_); rintro e x1 ⟨rfl, f1⟩; replace hF := hF.trans f1 (fun _ _ h => h); replace B4 := B4.frm f1 (fun h => h); replace hXA := hXA.frm f1; have z0 := B4.frozen 0; have z1 := B4.frozen 1; have g0 := B4.cellIs (i := 0) rfl; have g1 := B4.cellIs (i := 1) rfl; clear f1))
    have B4a := (B4.put 0 (.int .i64 0)).put 1 (.int .i64 0)
    have hF4 := (hF.put (b := w.heap.size) (fun h => absurd h (by omega)) 0 (.int .i64 0)).put (b := w.heap.size) (fun h => absurd h (by omega)) 1 (.int .i64 0)
    have c0 := B4a.cellIs (i := 0) rfl
    have c1 := B4a.cellIs (i := 1) rfl
    refine bodyPost_ret (v := .tuple #[.agg #[(.int .i64 0), (.int .i64 0)], .int .i64 3]) (by simp [results, Try.results26, go_sem, c0, c1]) rfl ?_
    exact ⟨rfl, hF4⟩
  · have g1 : decide (d < 1) = false := decide_eq_false h1
    by_cases h2 : (n : Int) < d
    · have g2 : decide ((n : Int) < d) = true := decide_eq_true h2
      clear hd
      go_enter Try.func26, Try.ntmps26
      go_wp2_with (first
        | (go_at_call 24; rw [← hwA]; (with_reducible refine (rcheck_b HE hXA).mono ?_); rintro e x1 ⟨rfl, f1⟩; replace hF := hF.trans f1 (fun _ _ h => h); replace B4 := B4.frm f1 (fun h => h); replace hXA := hXA.frm f1; have z0 := B4.frozen 0; have z1 := B4.frozen 1; have g0 := B4.cellIs (i := 0) rfl; have g1 := B4.cellIs (i := 1) rfl; clear f1))
      have B4a := (B4.put 0 (.int .i64 0)).put 1 (.int .i64 0)
      have hF4 := (hF.put (b := w.heap.size) (fun h => absurd h (by omega)) 0 (.int .i64 0)).put (b := w.heap.size) (fun h => absurd h (by omega)) 1 (.int .i64 0)
      have c0 := B4a.cellIs (i := 0) rfl
      have c1 := B4a.cellIs (i := 1) rfl
      refine bodyPost_ret (v := .tuple #[.agg #[(.int .i64 0), (.int .i64 0)], .int .i64 3]) (by simp [results, Try.results26, go_sem, c0, c1]) rfl ?_
      exact ⟨rfl, hF4⟩
    · have g2 : decide ((n : Int) < d) = false := decide_eq_false h2
      have t1 : IntKind.i64.wrap (2 * d) = 2 * d := IntWalk.i64_in _ (by omega)
      have g3 : decide ((n : Int) ≤ 2 * d) = true := decide_eq_true (by omega)
      have h3 : (n : Int) ≤ 2 * d := by omega
      clear hd
      go_enter Try.func26, Try.ntmps26
      go_wp2_with (first
        | (go_at_call 24; rw [← hwA]; (with_reducible refine (rcheck_b HE hXA).mono ?_); rintro e x1 ⟨rfl, f1⟩; replace hF := hF.trans f1 (fun _ _ h => h); replace B4 := B4.frm f1 (fun h => h); replace hXA := hXA.frm f1; have z0 := B4.frozen 0; have z1 := B4.frozen 1; have g0 := B4.cellIs (i := 0) rfl; have g1 := B4.cellIs (i := 1) rfl; clear f1))
      have B4a := (B4.put 0 (.int .i64 0)).put 1 (.int .i64 0)
      have hF4 := (hF.put (b := w.heap.size) (fun h => absurd h (by omega)) 0 (.int .i64 0)).put (b := w.heap.size) (fun h => absurd h (by omega)) 1 (.int .i64 0)
      have c0 := B4a.cellIs (i := 0) rfl
      have c1 := B4a.cellIs (i := 1) rfl
      refine bodyPost_ret (v := .tuple #[.agg #[(.int .i64 0), (.int .i64 0)], .int .i64 3]) (by simp [results, Try.results26, go_sem, c0, c1]) rfl ?_
      exact ⟨rfl, hF4⟩
end
section
variable (A : Option Addr) (n c B q m : Nat) (xs : List Int) (w : World)
set_option maxHeartbeats 8000000 in
theorem rallan_ok (hX : LI w A n B xs) (HE : Hid (chk xs = 0)) (hq : 1 ≤ q) (hm : m + 2 * q = n) (hm1 : 1 ≤ m) (hs : sqs (a2 xs q) m ≤ 9223372036854775807) :
    Calls Try.prog 26 #[.slice A n c, .int .i64 (q : Int)] w fun e w' => e = .returned (.tuple #[ratI (sqs (a2 xs q) m) (2 * m), .int .i64 0]) ∧ Frm w w' NoB := by
  obtain ⟨wA, hwA⟩ : ∃ wA, wA = w.alloc (.cells #[.int .i64 0, .int .i64 0] 41) := ⟨_, rfl⟩
  have hF : Frm w wA NoB := by rw [hwA]; exact (Frm.refl w NoB).alloc _
  have B4 : Blk wA w.heap.size 41 #[.int .i64 0, .int .i64 0] := by rw [hwA]; exact Blk.new _ _ _
  have hXA := hX.frm hF
  have hck := chk_zero HE.out
  have hn1 := hck.1
  rw [hX.HN] at hn1
  have HO : Hid (okl xs xs.length) := hck.2
  obtain ⟨Q2, hQ2⟩ : ∃ Q2, Q2 = 2 * q := ⟨_, rfl⟩
  obtain ⟨D, hDD⟩ : ∃ D, D = 2 * m := ⟨_, rfl⟩
  have t1 : IntKind.i64.wrap (2 * (q : Int)) = (Q2 : Int) := by rw [IntWalk.i64_in _ (by omega)]; omega
  have t2 : IntKind.i64.wrap ((n : Int) - (Q2 : Int)) = (m : Int) := by rw [IntWalk.i64_in _ (by omega)]; omega
  have t3 : IntKind.i64.wrap (2 * (m : Int)) = (D : Int) := by rw [IntWalk.i64_in _ (by omega)]; omega
  have g1 : decide ((q : Int) < 1) = false := decide_eq_false (by omega)
  have g2 : decide ((n : Int) < (q : Int)) = false := decide_eq_false (by omega)
  have g2' : decide (n < q) = false := decide_eq_false (by omega)
  have g3 : decide ((n : Int) ≤ (Q2 : Int)) = false := decide_eq_false (by omega)
  have g3' : decide (n ≤ Q2) = false := decide_eq_false (by omega)
  have HSQ : Hid (∀ (w : World) {A' : Option Addr} {c' : Nat}, LI w A' m w.heap.size (sdL xs q m) → Calls Try.prog 41 #[.slice A' m c'] w fun e w' => e = .returned (if sqs (a2 xs q) m ≤ 9223372036854775807 then .tuple #[.int .i64 (sqs (a2 xs q) m : Nat), .bool true] else .tuple #[.int .i64 0, .bool false]) ∧ Frm w w' NoB) := by
    intro w A' c' hl
    have h := squares_t A' m c' w.heap.size (sdL xs q m) w hl (fun j hj => by rw [sdL_abs xs q m j hj]; have := s2_bounds HO.out (i := j) (q := q) (by rw [hX.HN]; omega); unfold a2; omega)
    rw [sqs_congr m (fun j hj => sdL_abs xs q m j hj)] at h
    exact h
  have HQ2 : Hid (Q2 + m = n ∧ Q2 = 2 * q) := by unfold Hid; omega
  have hmb : m ≤ 1024 := by omega
  clear hQ2 hck
  rw [if_pos hs] at HSQ
  obtain ⟨i0, hi, hz0, hz1, hz2⟩ := info_parts int_info
  obtain ⟨S, hS⟩ : ∃ S, S = sqs (a2 xs q) m := ⟨_, rfl⟩
  rw [← hS] at hs HSQ ⊢
  have hquo := fun w => rat_t S (2 * m) w (by omega) hs (by omega)
  have hD : ((2 * m : Nat) : Int) = (D : Int) := by omega
  have hrat : ratI S (2 * m) = .agg #[.int .i64 (S / Nat.gcd S (2 * m) : Nat), .int .i64 (2 * m / Nat.gcd S (2 * m) : Nat)] := rfl
  rw [hD] at hquo
  rw [hrat]
  obtain ⟨X, hXX⟩ : ∃ X : Nat, X = S / Nat.gcd S (2 * m) := ⟨_, rfl⟩
  obtain ⟨Y, hYY⟩ : ∃ Y : Nat, Y = 2 * m / Nat.gcd S (2 * m) := ⟨_, rfl⟩
  rw [← hXX, ← hYY] at hquo ⊢
  have HQUO := Lib.hid hquo
  clear hquo hD hrat hXX hYY hS hs hDD hm
  go_enter Try.func26, Try.ntmps26
  go_wp2_with (first
    | (go_at_call 24; rw [← hwA]; (with_reducible refine (rcheck_b HE hXA).mono ?_); rintro e x1 ⟨rfl, f1⟩; replace hF := hF.trans f1 (fun _ _ h => h); replace B4 := B4.frm f1 (fun h => h); replace hXA := hXA.frm f1; have z0 := B4.frozen 0; have z1 := B4.frozen 1; have g0 := B4.cellIs (i := 0) rfl; have g1 := B4.cellIs (i := 1) rfl; clear f1))
  go_loopw [7, 8] (fun v i wr => ∃ k : Nat, k ≤ m ∧ i = .int .i64 k ∧ OwnI wr x1.heap.size v k (sdL xs q k) ∧ Frm x1 wr NoB) (fun _ i _ => m - (intOf i).toNat)
  case atStart => exact ⟨0, Nat.zero_le _, rfl, World.ownsRow_nil _ _ _ _, Frm.refl x1 _⟩
  obtain ⟨k, hk, rfl, hown, hG⟩ := hrel
  by_cases hlt : k < m
  · have hQm := HQ2.out.1
    have hQq := HQ2.out.2
    have hX2 := hXA.frm hG
    obtain ⟨I2, hI2⟩ : ∃ I2, I2 = k + Q2 := ⟨_, rfl⟩
    have u1 : IntKind.i64.wrap ((k : Int) + (Q2 : Int)) = (I2 : Int) := by rw [IntWalk.i64_in _ (by omega)]; omega
    have v1 : I2 < n := by omega
    have v2 : decide ((I2 : Int) < (n : Int)) = true := decide_eq_true (by omega)
    have v3 : decide (I2 < n) = true := decide_eq_true v1
    have hsu := sdL_succ xs q k
    have hsec := fun wr (h : LI wr A n B xs) => rsecond_b (c := c) (i := k) (q := q) h HO hn1 (by omega)
    obtain ⟨V, hV⟩ : ∃ V, V = s2 xs k q := ⟨_, rfl⟩
    rw [← hV] at hsec hsu
    have HS := Lib.hid hsu
    have HSEC := Lib.hid hsec
    clear hI2 hQm hQq hsu hsec hV hX hXA hF B4
    go_wp2_with (first
      | (go_at_call 40; (with_reducible refine (HSEC.out _ hX2).mono ?_); rintro e x2 ⟨rfl, f2⟩; replace hown := OwnI.frm hown f2; replace hG := hG.trans f2 (fun _ _ h => h); have hsz := hG.size; clear f2)
      | (at_builtin; refine wpList_append_own _ rfl _ _ 23 rfl x1.heap.size 3 i0 (.int .i64 0) 1 8 Try.underlying23 hi hz0 hz1 hz2 rfl (by decide) _ _ _ rfl (hown.alloc _) ⟨x2.heap.size, 0, none⟩ 1 1 [.int .i64 V] rfl rfl ?c1 ?c2 ?c3 ?c4 ?c5 ?_)
      | go_in)
    case c1 => intro j u hj; match j, hj with | 0, hj => (simp at hj; subst hj; simp [Addr.add])
    case c2 => intro u hu; simp at hu; subst hu; rfl
    case c3 => unfold maxLen; omega
    case c4 => omega
    case c5 => simp; omega
    intro v' w1 hown' hgrow _
    have hown3 : OwnI w1 x1.heap.size v' (k + 1) (sdL xs q (k + 1)) := by rw [HS.out]; simpa [OwnI] using hown'
    have hG3 := (hG.alloc (.cells #[.int .i64 V] 3)).grown hgrow (fun j hj hlt => absurd (hown.lt j hj).1 (by omega))
    clear hown' hgrow hown hG
    go_wp2
    go_roundw
    case rel => exact ⟨k + 1, by omega, by go_num, hown3, hG3⟩
    case measure => simp [intOf]; omega
  · have hkm : k = m := by omega
    have hQm := HQ2.out.1
    have hQq := HQ2.out.2
    obtain ⟨I2, hI2⟩ : ∃ I2, I2 = k + Q2 := ⟨_, rfl⟩
    have u1 : IntKind.i64.wrap ((k : Int) + (Q2 : Int)) = (I2 : Int) := by rw [IntWalk.i64_in _ (by omega)]; omega
    have v1 : ¬ I2 < n := by omega
    have v2 : decide ((I2 : Int) < (n : Int)) = false := decide_eq_false (by omega)
    have v3 : decide (I2 < n) = false := decide_eq_false v1
    rw [hkm] at hown
    obtain ⟨A', c', rfl, hcc, hl⟩ := hown.li (by omega)
    replace hF := hF.trans hG (fun _ _ h => h)
    replace B4 := B4.frm hG (fun h => h)
    have z0 := B4.frozen 0; have z1 := B4.frozen 1; have g0 := B4.cellIs (i := 0) rfl; have g1 := B4.cellIs (i := 1) rfl
    clear hI2 hQm hQq hkm hX hXA hG hown hcc
    go_wp2_with (first
      | (go_at_call 41; (with_reducible refine (HSQ.out _ hl).mono ?_); rintro e x3 ⟨rfl, f1⟩; replace hF := hF.trans f1 (fun _ _ h => h); replace B4 := B4.frm f1 (fun h => h); have z0 := B4.frozen 0; have z1 := B4.frozen 1; have g0 := B4.cellIs (i := 0) rfl; have g1 := B4.cellIs (i := 1) rfl; clear f1)
      | (go_at_call 42; (with_reducible refine (HQUO.out _).mono ?_); rintro e x4 ⟨rfl, f1⟩; replace hF := hF.trans f1 (fun _ _ h => h); replace B4 := B4.frm f1 (fun h => h); have z0 := B4.frozen 0; have z1 := B4.frozen 1; have g0 := B4.cellIs (i := 0) rfl; have g1 := B4.cellIs (i := 1) rfl; clear f1))
    have B4a := (B4.put 0 (.int .i64 (X : Int))).put 1 (.int .i64 (Y : Int))
    have hF4 := (hF.put (b := w.heap.size) (fun h => absurd h (by omega)) 0 (.int .i64 (X : Int))).put (b := w.heap.size) (fun h => absurd h (by omega)) 1 (.int .i64 (Y : Int))
    have c0 := B4a.cellIs (i := 0) rfl
    have c1 := B4a.cellIs (i := 1) rfl
    refine bodyPost_ret (v := .tuple #[.agg #[(.int .i64 (X : Int)), (.int .i64 (Y : Int))], .int .i64 0]) (by simp [results, Try.results26, go_sem, c0, c1]) rfl ?_
    exact ⟨rfl, hF4⟩
set_option maxHeartbeats 8000000 in
theorem rallan_over (hX : LI w A n B xs) (HE : Hid (chk xs = 0)) (hq : 1 ≤ q) (hm : m + 2 * q = n) (hm1 : 1 ≤ m) (hs : 9223372036854775807 < sqs (a2 xs q) m) :
    Calls Try.prog 26 #[.slice A n c, .int .i64 (q : Int)] w fun e w' => e = .returned (.tuple #[.agg #[.int .i64 0, .int .i64 0], .int .i64 4]) ∧ Frm w w' NoB := by
  obtain ⟨wA, hwA⟩ : ∃ wA, wA = w.alloc (.cells #[.int .i64 0, .int .i64 0] 41) := ⟨_, rfl⟩
  have hF : Frm w wA NoB := by rw [hwA]; exact (Frm.refl w NoB).alloc _
  have B4 : Blk wA w.heap.size 41 #[.int .i64 0, .int .i64 0] := by rw [hwA]; exact Blk.new _ _ _
  have hXA := hX.frm hF
  have hck := chk_zero HE.out
  have hn1 := hck.1
  rw [hX.HN] at hn1
  have HO : Hid (okl xs xs.length) := hck.2
  obtain ⟨Q2, hQ2⟩ : ∃ Q2, Q2 = 2 * q := ⟨_, rfl⟩
  obtain ⟨D, hDD⟩ : ∃ D, D = 2 * m := ⟨_, rfl⟩
  have t1 : IntKind.i64.wrap (2 * (q : Int)) = (Q2 : Int) := by rw [IntWalk.i64_in _ (by omega)]; omega
  have t2 : IntKind.i64.wrap ((n : Int) - (Q2 : Int)) = (m : Int) := by rw [IntWalk.i64_in _ (by omega)]; omega
  have t3 : IntKind.i64.wrap (2 * (m : Int)) = (D : Int) := by rw [IntWalk.i64_in _ (by omega)]; omega
  have g1 : decide ((q : Int) < 1) = false := decide_eq_false (by omega)
  have g2 : decide ((n : Int) < (q : Int)) = false := decide_eq_false (by omega)
  have g2' : decide (n < q) = false := decide_eq_false (by omega)
  have g3 : decide ((n : Int) ≤ (Q2 : Int)) = false := decide_eq_false (by omega)
  have g3' : decide (n ≤ Q2) = false := decide_eq_false (by omega)
  have HSQ : Hid (∀ (w : World) {A' : Option Addr} {c' : Nat}, LI w A' m w.heap.size (sdL xs q m) → Calls Try.prog 41 #[.slice A' m c'] w fun e w' => e = .returned (if sqs (a2 xs q) m ≤ 9223372036854775807 then .tuple #[.int .i64 (sqs (a2 xs q) m : Nat), .bool true] else .tuple #[.int .i64 0, .bool false]) ∧ Frm w w' NoB) := by
    intro w A' c' hl
    have h := squares_t A' m c' w.heap.size (sdL xs q m) w hl (fun j hj => by rw [sdL_abs xs q m j hj]; have := s2_bounds HO.out (i := j) (q := q) (by rw [hX.HN]; omega); unfold a2; omega)
    rw [sqs_congr m (fun j hj => sdL_abs xs q m j hj)] at h
    exact h
  have HQ2 : Hid (Q2 + m = n ∧ Q2 = 2 * q) := by unfold Hid; omega
  have hmb : m ≤ 1024 := by omega
  clear hQ2 hck
  rw [if_neg (show ¬ sqs (a2 xs q) m ≤ 9223372036854775807 by omega)] at HSQ
  obtain ⟨i0, hi, hz0, hz1, hz2⟩ := info_parts int_info
  clear hs hDD hm
  go_enter Try.func26, Try.ntmps26
  go_wp2_with (first
    | (go_at_call 24; rw [← hwA]; (with_reducible refine (rcheck_b HE hXA).mono ?_); rintro e x1 ⟨rfl, f1⟩; replace hF := hF.trans f1 (fun _ _ h => h); replace B4 := B4.frm f1 (fun h => h); replace hXA := hXA.frm f1; have z0 := B4.frozen 0; have z1 := B4.frozen 1; have g0 := B4.cellIs (i := 0) rfl; have g1 := B4.cellIs (i := 1) rfl; clear f1))
  go_loopw [7, 8] (fun v i wr => ∃ k : Nat, k ≤ m ∧ i = .int .i64 k ∧ OwnI wr x1.heap.size v k (sdL xs q k) ∧ Frm x1 wr NoB) (fun _ i _ => m - (intOf i).toNat)
  case atStart => exact ⟨0, Nat.zero_le _, rfl, World.ownsRow_nil _ _ _ _, Frm.refl x1 _⟩
  obtain ⟨k, hk, rfl, hown, hG⟩ := hrel
  by_cases hlt : k < m
  · have hQm := HQ2.out.1
    have hQq := HQ2.out.2
    have hX2 := hXA.frm hG
    obtain ⟨I2, hI2⟩ : ∃ I2, I2 = k + Q2 := ⟨_, rfl⟩
    have u1 : IntKind.i64.wrap ((k : Int) + (Q2 : Int)) = (I2 : Int) := by rw [IntWalk.i64_in _ (by omega)]; omega
    have v1 : I2 < n := by omega
    have v2 : decide ((I2 : Int) < (n : Int)) = true := decide_eq_true (by omega)
    have v3 : decide (I2 < n) = true := decide_eq_true v1
    have hsu := sdL_succ xs q k
    have hsec := fun wr (h : LI wr A n B xs) => rsecond_b (c := c) (i := k) (q := q) h HO hn1 (by omega)
    obtain ⟨V, hV⟩ : ∃ V, V = s2 xs k q := ⟨_, rfl⟩
    rw [← hV] at hsec hsu
    have HS := Lib.hid hsu
    have HSEC := Lib.hid hsec
    clear hI2 hQm hQq hsu hsec hV hX hXA hF B4
    go_wp2_with (first
      | (go_at_call 40; (with_reducible refine (HSEC.out _ hX2).mono ?_); rintro e x2 ⟨rfl, f2⟩; replace hown := OwnI.frm hown f2; replace hG := hG.trans f2 (fun _ _ h => h); have hsz := hG.size; clear f2)
      | (at_builtin; refine wpList_append_own _ rfl _ _ 23 rfl x1.heap.size 3 i0 (.int .i64 0) 1 8 Try.underlying23 hi hz0 hz1 hz2 rfl (by decide) _ _ _ rfl (hown.alloc _) ⟨x2.heap.size, 0, none⟩ 1 1 [.int .i64 V] rfl rfl ?c1 ?c2 ?c3 ?c4 ?c5 ?_)
      | go_in)
    case c1 => intro j u hj; match j, hj with | 0, hj => (simp at hj; subst hj; simp [Addr.add])
    case c2 => intro u hu; simp at hu; subst hu; rfl
    case c3 => unfold maxLen; omega
    case c4 => omega
    case c5 => simp; omega
    intro v' w1 hown' hgrow _
    have hown3 : OwnI w1 x1.heap.size v' (k + 1) (sdL xs q (k + 1)) := by rw [HS.out]; simpa [OwnI] using hown'
    have hG3 := (hG.alloc (.cells #[.int .i64 V] 3)).grown hgrow (fun j hj hlt => absurd (hown.lt j hj).1 (by omega))
    clear hown' hgrow hown hG
    go_wp2
    go_roundw
    case rel => exact ⟨k + 1, by omega, by go_num, hown3, hG3⟩
    case measure => simp [intOf]; omega
  · have hkm : k = m := by omega
    have hQm := HQ2.out.1
    have hQq := HQ2.out.2
    obtain ⟨I2, hI2⟩ : ∃ I2, I2 = k + Q2 := ⟨_, rfl⟩
    have u1 : IntKind.i64.wrap ((k : Int) + (Q2 : Int)) = (I2 : Int) := by rw [IntWalk.i64_in _ (by omega)]; omega
    have v1 : ¬ I2 < n := by omega
    have v2 : decide ((I2 : Int) < (n : Int)) = false := decide_eq_false (by omega)
    have v3 : decide (I2 < n) = false := decide_eq_false v1
    rw [hkm] at hown
    obtain ⟨A', c', rfl, hcc, hl⟩ := hown.li (by omega)
    replace hF := hF.trans hG (fun _ _ h => h)
    replace B4 := B4.frm hG (fun h => h)
    have z0 := B4.frozen 0; have z1 := B4.frozen 1; have g0 := B4.cellIs (i := 0) rfl; have g1 := B4.cellIs (i := 1) rfl
    clear hI2 hQm hQq hkm hX hXA hG hown hcc
    go_wp2_with (first
      | (go_at_call 41; (with_reducible refine (HSQ.out _ hl).mono ?_); rintro e x3 ⟨rfl, f1⟩; replace hF := hF.trans f1 (fun _ _ h => h); replace B4 := B4.frm f1 (fun h => h); have z0 := B4.frozen 0; have z1 := B4.frozen 1; have g0 := B4.cellIs (i := 0) rfl; have g1 := B4.cellIs (i := 1) rfl; clear f1))
    have B4a := (B4.put 0 (.int .i64 0)).put 1 (.int .i64 0)
    have hF4 := (hF.put (b := w.heap.size) (fun h => absurd h (by omega)) 0 (.int .i64 0)).put (b := w.heap.size) (fun h => absurd h (by omega)) 1 (.int .i64 0)
    have c0 := B4a.cellIs (i := 0) rfl
    have c1 := B4a.cellIs (i := 1) rfl
    refine bodyPost_ret (v := .tuple #[.agg #[(.int .i64 0), (.int .i64 0)], .int .i64 4]) (by simp [results, Try.results26, go_sem, c0, c1]) rfl ?_
    exact ⟨rfl, hF4⟩
end
section
variable {A : Option Addr} {n c B : Nat} {xs : List Int} {d e0 : Int} {R : Value} {w : World}
/-- Allan of the reference. -/
theorem rallan_s (HE : Hid (alE xs d = e0)) (HR : Hid (alR xs d = R)) (hX : LI w A n B xs) :
    Calls Try.prog 26 #[.slice A n c, .int .i64 d] w fun e w' => e = .returned (.tuple #[R, .int .i64 e0]) ∧ Frm w w' NoB := by
  rw [← HE.out, ← HR.out]
  by_cases h0 : chk xs = 0
  · by_cases h1 : d < 1 ∨ (xs.length : Int) < d ∨ (xs.length : Int) ≤ 2 * d
    · have he : alE xs d = 3 := by unfold alE; rw [if_neg (not_not_intro h0), if_pos h1]
      unfold alR
      rw [he, if_neg (by decide)]
      exact rallan_rng A n c B xs d w hX h0 (by rw [← hX.HN]; exact h1)
    · obtain ⟨q, rfl⟩ : ∃ q : Nat, d = (q : Int) := ⟨d.toNat, by omega⟩
      have hN := hX.HN
      have hq : 1 ≤ q := by omega
      have hm : (xs.length - 2 * q) + 2 * q = n := by omega
      have hm1 : 1 ≤ xs.length - 2 * q := by omega
      by_cases h2 : sqs (a2 xs q) (xs.length - 2 * q) ≤ 9223372036854775807
      · have he : alE xs (q : Int) = 0 := by unfold alE; rw [if_neg (not_not_intro h0), if_neg h1, Int.toNat_natCast, if_pos h2]
        unfold alR
        rw [he, if_pos rfl, Int.toNat_natCast]
        exact rallan_ok A n c B q (xs.length - 2 * q) xs w hX h0 hq hm hm1 h2
      · have he : alE xs (q : Int) = 4 := by unfold alE; rw [if_neg (not_not_intro h0), if_neg h1, Int.toNat_natCast, if_neg h2]
        unfold alR
        rw [he, if_neg (by decide)]
        exact rallan_over A n c B q (xs.length - 2 * q) xs w hX h0 hq hm hm1 (by omega)
  · have he : alE xs d = chk xs := by unfold alE; rw [if_pos h0]
    unfold alR
    rw [he, if_neg h0]
    exact rallan_chk A n c B xs d w hX (chk xs) rfl h0
end
end Go.Proofs.Ythpakpljfgmkfaa
