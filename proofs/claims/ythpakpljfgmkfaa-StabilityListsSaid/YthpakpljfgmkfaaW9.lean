/- Allan of the program. -/
import Derived.Test.YthpakpljfgmkfaaW8
namespace Go.Proofs.Ythpakpljfgmkfaa
open Go.RowKit

/-- The number and the error of Allan. -/
noncomputable def alE (xs : List Int) (d : Int) : Int :=
  if chk xs ≠ 0 then chk xs else if d < 1 ∨ (xs.length : Int) < d ∨ (xs.length : Int) ≤ 2 * d then 3 else if sqs (a2 xs d.toNat) (xs.length - 2 * d.toNat) ≤ 9223372036854775807 then 0 else 4
noncomputable def alR (xs : List Int) (d : Int) : Value :=
  if alE xs d = 0 then ratI (sqs (a2 xs d.toNat) (xs.length - 2 * d.toNat)) (2 * (xs.length - 2 * d.toNat)) else .agg #[.int .i64 0, .int .i64 0]
section
variable (A : Option Addr) (n c B : Nat) (xs : List Int) (d : Int) (w : World)
set_option maxHeartbeats 8000000 in
theorem allan_chk (hX : LI w A n B xs) (e0 : Int) (HE : Hid (chk xs = e0)) (h0 : e0 ≠ 0) :
    Calls Try.prog 25 #[.slice A n c, .int .i64 d] w fun e w' => e = .returned (.tuple #[.agg #[.int .i64 0, .int .i64 0], .int .i64 e0]) ∧ Frm w w' NoB := by
  have hmf : ∀ (fn : Fn) (first cap : Array Value) (w : World), (Instr.makeFunc fn first cap).run Try.prog w = .ok (.func fn first cap) w := fun _ _ _ _ => rfl
  obtain ⟨wA, hwA⟩ : ∃ wA, wA = ((w.alloc (.cells #[.slice A n c] 23)).alloc (.cells #[.int .i64 d] 3)).alloc (.cells #[.int .i64 0, .int .i64 0] 41) := ⟨_, rfl⟩
  have hF : Frm w wA NoB := by rw [hwA]; exact (((Frm.refl w NoB).alloc _).alloc _).alloc _
  have B2 : Blk wA w.heap.size 23 #[.slice A n c] := by rw [hwA]; exact ((Blk.new _ _ _).alloc _).alloc _
  have B3 : Blk wA (w.heap.size + 1) 3 #[.int .i64 d] := by rw [hwA]; exact (Blk.newAt _ _ _ (by simp)).alloc _
  have B4 : Blk wA (w.heap.size + 1 + 1) 41 #[.int .i64 0, .int .i64 0] := by rw [hwA]; exact Blk.newAt _ _ _ (by simp)
  have hXA := hX.frm hF
  have k2 : wA.cell? ⟨w.heap.size, 0, none⟩ = some (.slice A n c) := B2.cellIs rfl
  rw [hwA] at k2
  have hb : (e0 != 0) = true := by rw [bne_iff_ne]; exact h0
  clear h0
  go_enter Try.func25, Try.ntmps25
  go_wp2_with (first
    | (go_at_call 23; rw [← hwA]; (with_reducible refine (check_b HE hXA).mono ?_); rintro e x1 ⟨rfl, f1⟩; replace hF := hF.trans f1 (fun _ _ h => h); replace B2 := B2.frm f1 (fun h => h); replace B3 := B3.frm f1 (fun h => h); replace B4 := B4.frm f1 (fun h => h); replace hXA := hXA.frm f1; have l2 := B2.cellIs (i := 0) rfl; have l3 := B3.cellIs (i := 0) rfl; have z0 := B4.frozen 0; have z1 := B4.frozen 1; have g0 := B4.cellIs (i := 0) rfl; have g1 := B4.cellIs (i := 1) rfl; clear f1))
  have B4a := (B4.put 0 (.int .i64 0)).put 1 (.int .i64 0)
  have hF4 := (hF.put (b := w.heap.size + 1 + 1) (fun h => absurd h (by omega)) 0 (.int .i64 0)).put (b := w.heap.size + 1 + 1) (fun h => absurd h (by omega)) 1 (.int .i64 0)
  have c0 := B4a.cellIs (i := 0) rfl
  have c1 := B4a.cellIs (i := 1) rfl
  refine bodyPost_ret (v := .tuple #[.agg #[(.int .i64 0), (.int .i64 0)], .int .i64 e0]) (by simp [results, Try.results25, go_sem, c0, c1]) rfl ?_
  exact ⟨rfl, hF4⟩
set_option maxHeartbeats 8000000 in
theorem allan_rng (hX : LI w A n B xs) (HE : Hid (chk xs = 0)) (hd : d < 1 ∨ (n : Int) < d ∨ (n : Int) ≤ 2 * d) :
    Calls Try.prog 25 #[.slice A n c, .int .i64 d] w fun e w' => e = .returned (.tuple #[.agg #[.int .i64 0, .int .i64 0], .int .i64 3]) ∧ Frm w w' NoB := by
  have hmf : ∀ (fn : Fn) (first cap : Array Value) (w : World), (Instr.makeFunc fn first cap).run Try.prog w = .ok (.func fn first cap) w := fun _ _ _ _ => rfl
  obtain ⟨wA, hwA⟩ : ∃ wA, wA = ((w.alloc (.cells #[.slice A n c] 23)).alloc (.cells #[.int .i64 d] 3)).alloc (.cells #[.int .i64 0, .int .i64 0] 41) := ⟨_, rfl⟩
  have hF : Frm w wA NoB := by rw [hwA]; exact (((Frm.refl w NoB).alloc _).alloc _).alloc _
  have B2 : Blk wA w.heap.size 23 #[.slice A n c] := by rw [hwA]; exact ((Blk.new _ _ _).alloc _).alloc _
  have B3 : Blk wA (w.heap.size + 1) 3 #[.int .i64 d] := by rw [hwA]; exact (Blk.newAt _ _ _ (by simp)).alloc _
  have B4 : Blk wA (w.heap.size + 1 + 1) 41 #[.int .i64 0, .int .i64 0] := by rw [hwA]; exact Blk.newAt _ _ _ (by simp)
  have hXA := hX.frm hF
  have k2 : wA.cell? ⟨w.heap.size, 0, none⟩ = some (.slice A n c) := B2.cellIs rfl
  rw [hwA] at k2
  have hn := (chk_zero HE.out).1
  rw [hX.HN] at hn
  by_cases h1 : d < 1
  · have g1 : decide (d < 1) = true := decide_eq_true h1
    clear hd
    go_enter Try.func25, Try.ntmps25
    go_wp2_with (first
      | (go_at_call 23; rw [← hwA]; (with_reducible refine (check_b HE hXA).mono ?_); rintro e x1 ⟨rfl, f1⟩; replace hF := hF.trans f1 (fun _ _ h => h); replace B2 := B2.frm f1 (fun h => h); replace B3 := B3.frm f1 (fun h => h); replace B4 := B4.frm f1 (fun h => h); replace hXA := hXA.frm f1; have l2 := B2.cellIs (i := 0) rfl; have l3 := B3.cellIs (i := 0) rfl; have z0 := B4.frozen 0; have z1 := B4.frozen 1; have g0 := B4.cellIs (i := 0) rfl; have g1 := B4.cellIs (i := 1) rfl; clear f1))
    have B4a := (B4.put 0 (.int .i64 0)).put 1 (.int .i64 0)
    have hF4 := (hF.put (b := w.heap.size + 1 + 1) (fun h => absurd h (by omega)) 0 (.int .i64 0)).put (b := w.heap.size + 1 + 1) (fun h => absurd h (by omega)) 1 (.int .i64 0)
    have c0 := B4a.cellIs (i := 0) rfl
    have c1 := B4a.cellIs (i := 1) rfl
    refine bodyPost_ret (v := .tuple #[.agg #[(.int .i64 0), (.int .i64 0)], .int .i64 3]) (by simp [results, Try.results25, go_sem, c0, c1]) rfl ?_
    exact ⟨rfl, hF4⟩
  · have g1 : decide (d < 1) = false := decide_eq_false h1
    by_cases h2 : (n : Int) < d
    · have g2 : decide ((n : Int) < d) = true := decide_eq_true h2
      clear hd
      go_enter Try.func25, Try.ntmps25
      go_wp2_with (first
        | (go_at_call 23; rw [← hwA]; (with_reducible refine (check_b HE hXA).mono ?_); rintro e x1 ⟨rfl, f1⟩; replace hF := hF.trans f1 (fun _ _ h => h); replace B2 := B2.frm f1 (fun h => h); replace B3 := B3.frm f1 (fun h => h); replace B4 := B4.frm f1 (fun h => h); replace hXA := hXA.frm f1; have l2 := B2.cellIs (i := 0) rfl; have l3 := B3.cellIs (i := 0) rfl; have z0 := B4.frozen 0; have z1 := B4.frozen 1; have g0 := B4.cellIs (i := 0) rfl; have g1 := B4.cellIs (i := 1) rfl; clear f1))
      have B4a := (B4.put 0 (.int .i64 0)).put 1 (.int .i64 0)
      have hF4 := (hF.put (b := w.heap.size + 1 + 1) (fun h => absurd h (by omega)) 0 (.int .i64 0)).put (b := w.heap.size + 1 + 1) (fun h => absurd h (by omega)) 1 (.int .i64 0)
      have c0 := B4a.cellIs (i := 0) rfl
      have c1 := B4a.cellIs (i := 1) rfl
      refine bodyPost_ret (v := .tuple #[.agg #[(.int .i64 0), (.int .i64 0)], .int .i64 3]) (by simp [results, Try.results25, go_sem, c0, c1]) rfl ?_
      exact ⟨rfl, hF4⟩
    · have g2 : decide ((n : Int) < d) = false := decide_eq_false h2
      have t1 : IntKind.i64.wrap (2 * d) = 2 * d := IntWalk.i64_in _ (by omega)
      have g3 : decide ((n : Int) ≤ 2 * d) = true := decide_eq_true (by omega)
      have h3 : (n : Int) ≤ 2 * d := by omega
      clear hd
      go_enter Try.func25, Try.ntmps25
      go_wp2_with (first
        | (go_at_call 23; rw [← hwA]; (with_reducible refine (check_b HE hXA).mono ?_); rintro e x1 ⟨rfl, f1⟩; replace hF := hF.trans f1 (fun _ _ h => h); replace B2 := B2.frm f1 (fun h => h); replace B3 := B3.frm f1 (fun h => h); replace B4 := B4.frm f1 (fun h => h); replace hXA := hXA.frm f1; have l2 := B2.cellIs (i := 0) rfl; have l3 := B3.cellIs (i := 0) rfl; have z0 := B4.frozen 0; have z1 := B4.frozen 1; have g0 := B4.cellIs (i := 0) rfl; have g1 := B4.cellIs (i := 1) rfl; clear f1))
      have B4a := (B4.put 0 (.int .i64 0)).put 1 (.int .i64 0)
      have hF4 := (hF.put (b := w.heap.size + 1 + 1) (fun h => absurd h (by omega)) 0 (.int .i64 0)).put (b := w.heap.size + 1 + 1) (fun h => absurd h (by omega)) 1 (.int .i64 0)
      have c0 := B4a.cellIs (i := 0) rfl
      have c1 := B4a.cellIs (i := 1) rfl
      refine bodyPost_ret (v := .tuple #[.agg #[(.int .i64 0), (.int .i64 0)], .int .i64 3]) (by simp [results, Try.results25, go_sem, c0, c1]) rfl ?_
      exact ⟨rfl, hF4⟩
end
section
variable (A : Option Addr) (n c B q m : Nat) (xs : List Int) (w : World)
set_option maxHeartbeats 8000000 in
theorem allan_ok (hX : LI w A n B xs) (HE : Hid (chk xs = 0)) (hq : 1 ≤ q) (hm : m + 2 * q = n) (hm1 : 1 ≤ m) (hs : sqs (a2 xs q) m ≤ 9223372036854775807) :
    Calls Try.prog 25 #[.slice A n c, .int .i64 (q : Int)] w fun e w' => e = .returned (.tuple #[ratI (sqs (a2 xs q) m) (2 * m), .int .i64 0]) ∧ Frm w w' NoB := by
  obtain ⟨d, hdq⟩ : ∃ d : Int, d = (q : Int) := ⟨_, rfl⟩
  rw [← hdq]
  have hmf : ∀ (fn : Fn) (first cap : Array Value) (w : World), (Instr.makeFunc fn first cap).run Try.prog w = .ok (.func fn first cap) w := fun _ _ _ _ => rfl
  obtain ⟨wA, hwA⟩ : ∃ wA, wA = ((w.alloc (.cells #[.slice A n c] 23)).alloc (.cells #[.int .i64 d] 3)).alloc (.cells #[.int .i64 0, .int .i64 0] 41) := ⟨_, rfl⟩
  have hF : Frm w wA NoB := by rw [hwA]; exact (((Frm.refl w NoB).alloc _).alloc _).alloc _
  have B2 : Blk wA w.heap.size 23 #[.slice A n c] := by rw [hwA]; exact ((Blk.new _ _ _).alloc _).alloc _
  have B3 : Blk wA (w.heap.size + 1) 3 #[.int .i64 d] := by rw [hwA]; exact (Blk.newAt _ _ _ (by simp)).alloc _
  have B4 : Blk wA (w.heap.size + 1 + 1) 41 #[.int .i64 0, .int .i64 0] := by rw [hwA]; exact Blk.newAt _ _ _ (by simp)
  have hXA := hX.frm hF
  have k2 : wA.cell? ⟨w.heap.size, 0, none⟩ = some (.slice A n c) := B2.cellIs rfl
  rw [hwA] at k2
  subst hdq
  have hck := chk_zero HE.out
  have hn1 := hck.1
  rw [hX.HN] at hn1
  have HO : Hid (okl xs xs.length) := hck.2
  obtain ⟨Q2, hQ2⟩ : ∃ Q2, Q2 = 2 * q := ⟨_, rfl⟩
  obtain ⟨D, hDD⟩ : ∃ D, D = 2 * m := ⟨_, rfl⟩
  have t1 : IntKind.i64.wrap (2 * (q : Int)) = (Q2 : Int) := by rw [IntWalk.i64_in _ (by omega)]; omega
  have t2 : IntKind.i64.wrap ((n : Int) - (Q2 : Int)) = (m : Int) := by rw [IntWalk.i64_in _ (by omega)]; omega
  have t3 : IntKind.i64.wrap (2 * (m : Int)) = (D : Int) := by rw [IntWalk.i64_in _ (by omega)]; omega
  have g1 : decide ((q : Int) < 1) = false := decide_eq_false (by omega)
  have g2 : decide ((n : Int) < (q : Int)) = false := decide_eq_false (by omega)
  have g2' : decide (n < q) = false := decide_eq_false (by omega)
  have g3 : decide ((n : Int) ≤ (Q2 : Int)) = false := decide_eq_false (by omega)
  have g3' : decide (n ≤ Q2) = false := decide_eq_false (by omega)
  clear hQ2 hck
  have HCC : Hid (∀ x1, Frm w x1 NoB → Blk x1 w.heap.size 23 #[.slice A n c] → Blk x1 (w.heap.size + 1) 3 #[.int .i64 (q : Int)] →
      ∀ wr g, Frm (x1.alloc (.cells #[.int .i64 (m : Int)] 3)) wr NoB → (x1.alloc (.cells #[.int .i64 (m : Int)] 3)).heap.size ≤ g → Blk wr g 65 #[.int .i64 0] →
      Calls Try.prog 36 #[.pointer (some ⟨g, 0, none⟩), .pointer (some ⟨x1.heap.size, 0, none⟩), .pointer (some ⟨w.heap.size, 0, none⟩), .pointer (some ⟨w.heap.size + 1, 0, none⟩)] wr fun e w' => e = .returned (.tuple #[]) ∧ Blk w' g 65 #[.int .i64 (sqs (a2 xs q) m : Nat)] ∧ Frm wr w' (· = g)) := by
    intro x1 fx b2 b3 wr g fr hg hb
    have fa := (Frm.refl x1 NoB).alloc (.cells #[.int .i64 (m : Int)] 3)
    have hsz : w.heap.size ≤ x1.heap.size := fx.size
    exact allan1_ok A n c q m B g x1.heap.size w.heap.size (w.heap.size + 1) xs wr (((hX.frm fx).frm fa).frm fr) HO hn1 hm (by have := hX.hB; simp at hg; omega) hb ((Blk.new x1 3 _).frm fr (fun h => h)) ((b2.frm fa (fun h => h)).frm fr (fun h => h)) ((b3.frm fa (fun h => h)).frm fr (fun h => h)) hs
  obtain ⟨S, hS⟩ : ∃ S, S = sqs (a2 xs q) m := ⟨_, rfl⟩
  rw [← hS] at hs HCC ⊢
  have hquo := fun w => quotient_t S (2 * m) w (by omega) hs (by omega)
  have hD : ((2 * m : Nat) : Int) = (D : Int) := by omega
  have hrat : ratI S (2 * m) = .agg #[.int .i64 (S / Nat.gcd S (2 * m) : Nat), .int .i64 (2 * m / Nat.gcd S (2 * m) : Nat)] := rfl
  rw [hD] at hquo
  rw [hrat]
  obtain ⟨X, hXX⟩ : ∃ X : Nat, X = S / Nat.gcd S (2 * m) := ⟨_, rfl⟩
  obtain ⟨Y, hYY⟩ : ∃ Y : Nat, Y = 2 * m / Nat.gcd S (2 * m) := ⟨_, rfl⟩
  rw [← hXX, ← hYY] at hquo ⊢
  have HQUO := Lib.hid hquo
  clear hquo hD hrat hXX hYY hS hs hm hDD
  go_enter Try.func25, Try.ntmps25
  go_wp2_with (first
    | (go_at_call 23; rw [← hwA]; (with_reducible refine (check_b HE hXA).mono ?_); rintro e x1 ⟨rfl, f1⟩; replace hF := hF.trans f1 (fun _ _ h => h); replace B2 := B2.frm f1 (fun h => h); replace B3 := B3.frm f1 (fun h => h); replace B4 := B4.frm f1 (fun h => h); replace hXA := hXA.frm f1; have l2 := B2.cellIs (i := 0) rfl; have l3 := B3.cellIs (i := 0) rfl; have z0 := B4.frozen 0; have z1 := B4.frozen 1; have g0 := B4.cellIs (i := 0) rfl; have g1 := B4.cellIs (i := 1) rfl; clear f1; have HC2 : Hid (∀ wr g, Frm (x1.alloc (.cells #[.int .i64 (m : Int)] 3)) wr NoB → (x1.alloc (.cells #[.int .i64 (m : Int)] 3)).heap.size ≤ g → Blk wr g 65 #[.int .i64 0] → _) := HCC.out x1 hF B2 B3; have B5 : Blk (x1.alloc (.cells #[.int .i64 (m : Int)] 3)) x1.heap.size 3 #[.int .i64 (m : Int)] := Blk.new _ _ _)
    | (go_at_call 35; (with_reducible refine (safe36_ok _ _ _ S _ HC2).mono ?_); rintro e x2 ⟨rfl, f2⟩; have B5c := (B5.frm f2 (fun h => h)).cellIs (i := 0) rfl; have fA := ((Frm.refl x1 NoB).alloc (.cells #[.int .i64 (m : Int)] 3)).trans f2 (fun _ _ h => h); replace hF := hF.trans fA (fun _ _ h => h); replace B4 := B4.frm fA (fun h => h); clear f2 fA; have z0 := B4.frozen 0; have z1 := B4.frozen 1; have g0 := B4.cellIs (i := 0) rfl; have g1 := B4.cellIs (i := 1) rfl)
    | (go_at_call 39; (with_reducible refine (HQUO.out _).mono ?_); rintro e x3 ⟨rfl, f1⟩; replace hF := hF.trans f1 (fun _ _ h => h); replace B4 := B4.frm f1 (fun h => h); have z0 := B4.frozen 0; have z1 := B4.frozen 1; have g0 := B4.cellIs (i := 0) rfl; have g1 := B4.cellIs (i := 1) rfl))
  have B4a := (B4.put 0 (.int .i64 (X : Int))).put 1 (.int .i64 (Y : Int))
  have hF4 := (hF.put (b := w.heap.size + 1 + 1) (fun h => absurd h (by omega)) 0 (.int .i64 (X : Int))).put (b := w.heap.size + 1 + 1) (fun h => absurd h (by omega)) 1 (.int .i64 (Y : Int))
  have c0 := B4a.cellIs (i := 0) rfl
  have c1 := B4a.cellIs (i := 1) rfl
  refine bodyPost_ret (v := .tuple #[.agg #[(.int .i64 (X : Int)), (.int .i64 (Y : Int))], .int .i64 0]) (by simp [results, Try.results25, go_sem, c0, c1]) rfl ?_
  exact ⟨rfl, hF4⟩

set_option maxHeartbeats 8000000 in
theorem allan_over (hX : LI w A n B xs) (HE : Hid (chk xs = 0)) (hq : 1 ≤ q) (hm : m + 2 * q = n) (hm1 : 1 ≤ m) (hs : 9223372036854775807 < sqs (a2 xs q) m) :
    Calls Try.prog 25 #[.slice A n c, .int .i64 (q : Int)] w fun e w' => e = .returned (.tuple #[.agg #[.int .i64 0, .int .i64 0], .int .i64 4]) ∧ Frm w w' NoB := by
  obtain ⟨d, hdq⟩ : ∃ d : Int, d = (q : Int) := ⟨_, rfl⟩
  rw [← hdq]
  have hmf : ∀ (fn : Fn) (first cap : Array Value) (w : World), (Instr.makeFunc fn first cap).run Try.prog w = .ok (.func fn first cap) w := fun _ _ _ _ => rfl
  obtain ⟨wA, hwA⟩ : ∃ wA, wA = ((w.alloc (.cells #[.slice A n c] 23)).alloc (.cells #[.int .i64 d] 3)).alloc (.cells #[.int .i64 0, .int .i64 0] 41) := ⟨_, rfl⟩
  have hF : Frm w wA NoB := by rw [hwA]; exact (((Frm.refl w NoB).alloc _).alloc _).alloc _
  have B2 : Blk wA w.heap.size 23 #[.slice A n c] := by rw [hwA]; exact ((Blk.new _ _ _).alloc _).alloc _
  have B3 : Blk wA (w.heap.size + 1) 3 #[.int .i64 d] := by rw [hwA]; exact (Blk.newAt _ _ _ (by simp)).alloc _
  have B4 : Blk wA (w.heap.size + 1 + 1) 41 #[.int .i64 0, .int .i64 0] := by rw [hwA]; exact Blk.newAt _ _ _ (by simp)
  have hXA := hX.frm hF
  have k2 : wA.cell? ⟨w.heap.size, 0, none⟩ = some (.slice A n c) := B2.cellIs rfl
  rw [hwA] at k2
  subst hdq
  have hck := chk_zero HE.out
  have hn1 := hck.1
  rw [hX.HN] at hn1
  have HO : Hid (okl xs xs.length) := hck.2
  obtain ⟨Q2, hQ2⟩ : ∃ Q2, Q2 = 2 * q := ⟨_, rfl⟩
  obtain ⟨D, hDD⟩ : ∃ D, D = 2 * m := ⟨_, rfl⟩
  have t1 : IntKind.i64.wrap (2 * (q : Int)) = (Q2 : Int) := by rw [IntWalk.i64_in _ (by omega)]; omega
  have t2 : IntKind.i64.wrap ((n : Int) - (Q2 : Int)) = (m : Int) := by rw [IntWalk.i64_in _ (by omega)]; omega
  have t3 : IntKind.i64.wrap (2 * (m : Int)) = (D : Int) := by rw [IntWalk.i64_in _ (by omega)]; omega
  have g1 : decide ((q : Int) < 1) = false := decide_eq_false (by omega)
  have g2 : decide ((n : Int) < (q : Int)) = false := decide_eq_false (by omega)
  have g2' : decide (n < q) = false := decide_eq_false (by omega)
  have g3 : decide ((n : Int) ≤ (Q2 : Int)) = false := decide_eq_false (by omega)
  have g3' : decide (n ≤ Q2) = false := decide_eq_false (by omega)
  clear hQ2 hck
  have HCC : Hid (∀ x1, Frm w x1 NoB → Blk x1 w.heap.size 23 #[.slice A n c] → Blk x1 (w.heap.size + 1) 3 #[.int .i64 (q : Int)] →
      ∀ wr g, Frm (x1.alloc (.cells #[.int .i64 (m : Int)] 3)) wr NoB → (x1.alloc (.cells #[.int .i64 (m : Int)] 3)).heap.size ≤ g → Blk wr g 65 #[.int .i64 0] →
      Calls Try.prog 36 #[.pointer (some ⟨g, 0, none⟩), .pointer (some ⟨x1.heap.size, 0, none⟩), .pointer (some ⟨w.heap.size, 0, none⟩), .pointer (some ⟨w.heap.size + 1, 0, none⟩)] wr fun e w' => e = .panicked ovr ∧ Frm wr w' (· = g)) := by
    intro x1 fx b2 b3 wr g fr hg hb
    have fa := (Frm.refl x1 NoB).alloc (.cells #[.int .i64 (m : Int)] 3)
    have hsz : w.heap.size ≤ x1.heap.size := fx.size
    exact allan1_bad A n c q m B g x1.heap.size w.heap.size (w.heap.size + 1) xs wr (((hX.frm fx).frm fa).frm fr) HO hn1 hm (by have := hX.hB; simp at hg; omega) hb ((Blk.new x1 3 _).frm fr (fun h => h)) ((b2.frm fa (fun h => h)).frm fr (fun h => h)) ((b3.frm fa (fun h => h)).frm fr (fun h => h)) hs
  clear hs hm hDD
  go_enter Try.func25, Try.ntmps25
  go_wp2_with (first
    | (go_at_call 23; rw [← hwA]; (with_reducible refine (check_b HE hXA).mono ?_); rintro e x1 ⟨rfl, f1⟩; replace hF := hF.trans f1 (fun _ _ h => h); replace B2 := B2.frm f1 (fun h => h); replace B3 := B3.frm f1 (fun h => h); replace B4 := B4.frm f1 (fun h => h); replace hXA := hXA.frm f1; have l2 := B2.cellIs (i := 0) rfl; have l3 := B3.cellIs (i := 0) rfl; have z0 := B4.frozen 0; have z1 := B4.frozen 1; have g0 := B4.cellIs (i := 0) rfl; have g1 := B4.cellIs (i := 1) rfl; clear f1; have HC2 : Hid (∀ wr g, Frm (x1.alloc (.cells #[.int .i64 (m : Int)] 3)) wr NoB → (x1.alloc (.cells #[.int .i64 (m : Int)] 3)).heap.size ≤ g → Blk wr g 65 #[.int .i64 0] → _) := HCC.out x1 hF B2 B3; have B5 : Blk (x1.alloc (.cells #[.int .i64 (m : Int)] 3)) x1.heap.size 3 #[.int .i64 (m : Int)] := Blk.new _ _ _)
    | (go_at_call 35; (with_reducible refine (safe36_bad _ _ _ _ HC2).mono ?_); rintro e x2 ⟨rfl, f2⟩; have B5c := (B5.frm f2 (fun h => h)).cellIs (i := 0) rfl; have fA := ((Frm.refl x1 NoB).alloc (.cells #[.int .i64 (m : Int)] 3)).trans f2 (fun _ _ h => h); replace hF := hF.trans fA (fun _ _ h => h); replace B4 := B4.frm fA (fun h => h); clear f2 fA; have z0 := B4.frozen 0; have z1 := B4.frozen 1; have g0 := B4.cellIs (i := 0) rfl; have g1 := B4.cellIs (i := 1) rfl))
  have B4a := (B4.put 0 (.int .i64 0)).put 1 (.int .i64 0)
  have hF4 := (hF.put (b := w.heap.size + 1 + 1) (fun h => absurd h (by omega)) 0 (.int .i64 0)).put (b := w.heap.size + 1 + 1) (fun h => absurd h (by omega)) 1 (.int .i64 0)
  have c0 := B4a.cellIs (i := 0) rfl
  have c1 := B4a.cellIs (i := 1) rfl
  refine bodyPost_ret (v := .tuple #[.agg #[(.int .i64 0), (.int .i64 0)], .int .i64 4]) (by simp [results, Try.results25, go_sem, c0, c1]) rfl ?_
  exact ⟨rfl, hF4⟩
end
section
variable {A : Option Addr} {n c B : Nat} {xs : List Int} {d e0 : Int} {R : Value} {w : World}
/-- Allan of the program. -/
theorem allan_s (HE : Hid (alE xs d = e0)) (HR : Hid (alR xs d = R)) (hX : LI w A n B xs) :
    Calls Try.prog 25 #[.slice A n c, .int .i64 d] w fun e w' => e = .returned (.tuple #[R, .int .i64 e0]) ∧ Frm w w' NoB := by
  rw [← HE.out, ← HR.out]
  by_cases h0 : chk xs = 0
  · by_cases h1 : d < 1 ∨ (xs.length : Int) < d ∨ (xs.length : Int) ≤ 2 * d
    · have he : alE xs d = 3 := by unfold alE; rw [if_neg (not_not_intro h0), if_pos h1]
      unfold alR
      rw [he, if_neg (by decide)]
      exact allan_rng A n c B xs d w hX h0 (by rw [← hX.HN]; exact h1)
    · obtain ⟨q, rfl⟩ : ∃ q : Nat, d = (q : Int) := ⟨d.toNat, by omega⟩
      have hN := hX.HN
      have hq : 1 ≤ q := by omega
      have hm : (xs.length - 2 * q) + 2 * q = n := by omega
      have hm1 : 1 ≤ xs.length - 2 * q := by omega
      by_cases h2 : sqs (a2 xs q) (xs.length - 2 * q) ≤ 9223372036854775807
      · have he : alE xs (q : Int) = 0 := by unfold alE; rw [if_neg (not_not_intro h0), if_neg h1, Int.toNat_natCast, if_pos h2]
        unfold alR
        rw [he, if_pos rfl, Int.toNat_natCast]
        exact allan_ok A n c B q (xs.length - 2 * q) xs w hX h0 hq hm hm1 h2
      · have he : alE xs (q : Int) = 4 := by unfold alE; rw [if_neg (not_not_intro h0), if_neg h1, Int.toNat_natCast, if_neg h2]
        unfold alR
        rw [he, if_neg (by decide)]
        exact allan_over A n c B q (xs.length - 2 * q) xs w hX h0 hq hm hm1 (by omega)
  · have he : alE xs d = chk xs := by unfold alE; rw [if_pos h0]
    unfold alR
    rw [he, if_neg h0]
    exact allan_chk A n c B xs d w hX (chk xs) rfl h0
end
end Go.Proofs.Ythpakpljfgmkfaa
