/- Modified of the program. -/
import Derived.Test.YthpakpljfgmkfaaW10
namespace Go.Proofs.Ythpakpljfgmkfaa
open Go.RowKit

/-- The number and the error of Modified. -/
noncomputable def moE (xs : List Int) (d : Int) : Int :=
  if chk xs ≠ 0 then chk xs else if d < 1 ∨ (xs.length : Int) < d ∨ (xs.length : Int) < 3 * d then 3 else if sqs (mdA xs d.toNat) (xs.length + 1 - 3 * d.toNat) ≤ 9223372036854775807 then 0 else 4
noncomputable def moR (xs : List Int) (d : Int) : Value :=
  if moE xs d = 0 then ratI (sqs (mdA xs d.toNat) (xs.length + 1 - 3 * d.toNat)) (2 * d.toNat * d.toNat * (xs.length + 1 - 3 * d.toNat)) else .agg #[.int .i64 0, .int .i64 0]
section
variable (A : Option Addr) (n c B : Nat) (xs : List Int) (d : Int) (w : World)
set_option maxHeartbeats 8000000 in
theorem modif_chk (hX : LI w A n B xs) (e0 : Int) (HE : Hid (chk xs = e0)) (h0 : e0 ≠ 0) :
    Calls Try.prog 27 #[.slice A n c, .int .i64 d] w fun e w' => e = .returned (.tuple #[.agg #[.int .i64 0, .int .i64 0], .int .i64 e0]) ∧ Frm w w' NoB := by
  have hmf : ∀ (fn : Fn) (first cap : Array Value) (w : World), (Instr.makeFunc fn first cap).run Try.prog w = .ok (.func fn first cap) w := fun _ _ _ _ => rfl
  obtain ⟨wA, hwA⟩ : ∃ wA, wA = ((w.alloc (.cells #[.slice A n c] 23)).alloc (.cells #[.int .i64 d] 3)).alloc (.cells #[.int .i64 0, .int .i64 0] 41) := ⟨_, rfl⟩
  have hF : Frm w wA NoB := by rw [hwA]; exact (((Frm.refl w NoB).alloc _).alloc _).alloc _
  have B2 : Blk wA w.heap.size 23 #[.slice A n c] := by rw [hwA]; exact ((Blk.new _ _ _).alloc _).alloc _
  have B3 : Blk wA (w.heap.size + 1) 3 #[.int .i64 d] := by rw [hwA]; exact (Blk.newAt _ _ _ (by simp)).alloc _
  have B4 : Blk wA (w.heap.size + 1 + 1) 41 #[.int .i64 0, .int .i64 0] := by rw [hwA]; exact Blk.newAt _ _ _ (by simp)
  have hXA := hX.frm hF
  have k2 : wA.cell? ⟨w.heap.size, 0, none⟩ = some (.slice A n c) := B2.cellIs rfl
  rw [hwA] at k2
  have hb : (e0 != 0) = true := by rw [bne_iff_ne]; exact h0
  clear h0
  go_enter Try.func27, Try.ntmps27
  go_wp2_with (first
    | (go_at_call 23; rw [← hwA]; (with_reducible refine (check_b HE hXA).mono ?_); rintro e x1 ⟨rfl, f1⟩; replace hF := hF.trans f1 (fun _ _ h => h); replace B2 := B2.frm f1 (fun h => h); replace B3 := B3.frm f1 (fun h => h); replace B4 := B4.frm f1 (fun h => h); replace hXA := hXA.frm f1; have l2 := B2.cellIs (i := 0) rfl; have l3 := B3.cellIs (i := 0) rfl; have z0 := B4.frozen 0; have z1 := B4.frozen 1; have g0 := B4.cellIs (i := 0) rfl; have g1 := B4.cellIs (i := 1) rfl; clear f1))
  have B4a := (B4.put 0 (.int .i64 0)).put 1 (.int .i64 0)
  have hF4 := (hF.put (b := w.heap.size + 1 + 1) (fun h => absurd h (by omega)) 0 (.int .i64 0)).put (b := w.heap.size + 1 + 1) (fun h => absurd h (by omega)) 1 (.int .i64 0)
  have c0 := B4a.cellIs (i := 0) rfl
  have c1 := B4a.cellIs (i := 1) rfl
  refine bodyPost_ret (v := .tuple #[.agg #[(.int .i64 0), (.int .i64 0)], .int .i64 e0]) (by simp [results, Try.results27, go_sem, c0, c1]) rfl ?_
  exact ⟨rfl, hF4⟩
set_option maxHeartbeats 8000000 in
theorem modif_rng (hX : LI w A n B xs) (HE : Hid (chk xs = 0)) (hd : d < 1 ∨ (n : Int) < d ∨ (n : Int) < 3 * d) :
    Calls Try.prog 27 #[.slice A n c, .int .i64 d] w fun e w' => e = .returned (.tuple #[.agg #[.int .i64 0, .int .i64 0], .int .i64 3]) ∧ Frm w w' NoB := by
  have hmf : ∀ (fn : Fn) (first cap : Array Value) (w : World), (Instr.makeFunc fn first cap).run Try.prog w = .ok (.func fn first cap) w := fun _ _ _ _ => rfl
  obtain ⟨wA, hwA⟩ : ∃ wA, wA = ((w.alloc (.cells #[.slice A n c] 23)).alloc (.cells #[.int .i64 d] 3)).alloc (.cells #[.int .i64 0, .int .i64 0] 41) := ⟨_, rfl⟩
  have hF : Frm w wA NoB := by rw [hwA]; exact (((Frm.refl w NoB).alloc _).alloc _).alloc _
  have B2 : Blk wA w.heap.size 23 #[.slice A n c] := by rw [hwA]; exact ((Blk.new _ _ _).alloc _).alloc _
  have B3 : Blk wA (w.heap.size + 1) 3 #[.int .i64 d] := by rw [hwA]; exact (Blk.newAt _ _ _ (by simp)).alloc _
  have B4 : Blk wA (w.heap.size + 1 + 1) 41 #[.int .i64 0, .int .i64 0] := by rw [hwA]; exact Blk.newAt _ _ _ (by simp)
  have hXA := hX.frm hF
  have k2 : wA.cell? ⟨w.heap.size, 0, none⟩ = some (.slice A n c) := B2.cellIs rfl
  rw [hwA] at k2
  have hn := (chk_zero HE.out).1
  rw [hX.HN] at hn
  by_cases h1 : d < 1
  · have g1 : decide (d < 1) = true := decide_eq_true h1
    clear hd
    go_enter Try.func27, Try.ntmps27
    go_wp2_with (first
      | (go_at_call 23; rw [← hwA]; (with_reducible refine (check_b HE hXA).mono ?_); rintro e x1 ⟨rfl, f1⟩; replace hF := hF.trans f1 (fun _ _ h => h); replace B2 := B2.frm f1 (fun h => h); replace B3 := B3.frm f1 (fun h => h); replace B4 := B4.frm f1 (fun h => h); replace hXA := hXA.frm f1; have l2 := B2.cellIs (i := 0) rfl; have l3 := B3.cellIs (i := 0) rfl; have z0 := B4.frozen 0; have z1 := B4.frozen 1; have g0 := B4.cellIs (i := 0) rfl; have g1 := B4.cellIs (i := 1) rfl; clear f1))
    have B4a := (B4.put 0 (.int .i64 0)).put 1 (.int .i64 0)
    have hF4 := (hF.put (b := w.heap.size + 1 + 1) (fun h => absurd h (by omega)) 0 (.int .i64 0)).put (b := w.heap.size + 1 + 1) (fun h => absurd h (by omega)) 1 (.int .i64 0)
    have c0 := B4a.cellIs (i := 0) rfl
    have c1 := B4a.cellIs (i := 1) rfl
    refine bodyPost_ret (v := .tuple #[.agg #[(.int .i64 0), (.int .i64 0)], .int .i64 3]) (by simp [results, Try.results27, go_sem, c0, c1]) rfl ?_
    exact ⟨rfl, hF4⟩
  · have g1 : decide (d < 1) = false := decide_eq_false h1
    by_cases h2 : (n : Int) < d
    · have g2 : decide ((n : Int) < d) = true := decide_eq_true h2
      clear hd
      go_enter Try.func27, Try.ntmps27
      go_wp2_with (first
        | (go_at_call 23; rw [← hwA]; (with_reducible refine (check_b HE hXA).mono ?_); rintro e x1 ⟨rfl, f1⟩; replace hF := hF.trans f1 (fun _ _ h => h); replace B2 := B2.frm f1 (fun h => h); replace B3 := B3.frm f1 (fun h => h); replace B4 := B4.frm f1 (fun h => h); replace hXA := hXA.frm f1; have l2 := B2.cellIs (i := 0) rfl; have l3 := B3.cellIs (i := 0) rfl; have z0 := B4.frozen 0; have z1 := B4.frozen 1; have g0 := B4.cellIs (i := 0) rfl; have g1 := B4.cellIs (i := 1) rfl; clear f1))
      have B4a := (B4.put 0 (.int .i64 0)).put 1 (.int .i64 0)
      have hF4 := (hF.put (b := w.heap.size + 1 + 1) (fun h => absurd h (by omega)) 0 (.int .i64 0)).put (b := w.heap.size + 1 + 1) (fun h => absurd h (by omega)) 1 (.int .i64 0)
      have c0 := B4a.cellIs (i := 0) rfl
      have c1 := B4a.cellIs (i := 1) rfl
      refine bodyPost_ret (v := .tuple #[.agg #[(.int .i64 0), (.int .i64 0)], .int .i64 3]) (by simp [results, Try.results27, go_sem, c0, c1]) rfl ?_
      exact ⟨rfl, hF4⟩
    · have g2 : decide ((n : Int) < d) = false := decide_eq_false h2
      have t1 : IntKind.i64.wrap (3 * d) = 3 * d := IntWalk.i64_in _ (by omega)
      have g3 : decide ((n : Int) < 3 * d) = true := decide_eq_true (by omega)
      have h3 : (n : Int) < 3 * d := by omega
      clear hd
      go_enter Try.func27, Try.ntmps27
      go_wp2_with (first
        | (go_at_call 23; rw [← hwA]; (with_reducible refine (check_b HE hXA).mono ?_); rintro e x1 ⟨rfl, f1⟩; replace hF := hF.trans f1 (fun _ _ h => h); replace B2 := B2.frm f1 (fun h => h); replace B3 := B3.frm f1 (fun h => h); replace B4 := B4.frm f1 (fun h => h); replace hXA := hXA.frm f1; have l2 := B2.cellIs (i := 0) rfl; have l3 := B3.cellIs (i := 0) rfl; have z0 := B4.frozen 0; have z1 := B4.frozen 1; have g0 := B4.cellIs (i := 0) rfl; have g1 := B4.cellIs (i := 1) rfl; clear f1))
      have B4a := (B4.put 0 (.int .i64 0)).put 1 (.int .i64 0)
      have hF4 := (hF.put (b := w.heap.size + 1 + 1) (fun h => absurd h (by omega)) 0 (.int .i64 0)).put (b := w.heap.size + 1 + 1) (fun h => absurd h (by omega)) 1 (.int .i64 0)
      have c0 := B4a.cellIs (i := 0) rfl
      have c1 := B4a.cellIs (i := 1) rfl
      refine bodyPost_ret (v := .tuple #[.agg #[(.int .i64 0), (.int .i64 0)], .int .i64 3]) (by simp [results, Try.results27, go_sem, c0, c1]) rfl ?_
      exact ⟨rfl, hF4⟩
end
section
variable (A : Option Addr) (n c B q m : Nat) (xs : List Int) (w : World)
set_option maxHeartbeats 8000000 in
theorem modif_ok (hX : LI w A n B xs) (HE : Hid (chk xs = 0)) (hq : 1 ≤ q) (hm : m + 3 * q = n + 1) (hm1 : 1 ≤ m) (hs : sqs (mdA xs q) m ≤ 9223372036854775807) :
    Calls Try.prog 27 #[.slice A n c, .int .i64 (q : Int)] w fun e w' => e = .returned (.tuple #[ratI (sqs (mdA xs q) m) (2 * q * q * m), .int .i64 0]) ∧ Frm w w' NoB := by
  obtain ⟨d, hdq⟩ : ∃ d : Int, d = (q : Int) := ⟨_, rfl⟩
  rw [← hdq]
  have hmf : ∀ (fn : Fn) (first cap : Array Value) (w : World), (Instr.makeFunc fn first cap).run Try.prog w = .ok (.func fn first cap) w := fun _ _ _ _ => rfl
  obtain ⟨wA, hwA⟩ : ∃ wA, wA = ((w.alloc (.cells #[.slice A n c] 23)).alloc (.cells #[.int .i64 d] 3)).alloc (.cells #[.int .i64 0, .int .i64 0] 41) := ⟨_, rfl⟩
  have hF : Frm w wA NoB := by rw [hwA]; exact (((Frm.refl w NoB).alloc _).alloc _).alloc _
  have B2 : Blk wA w.heap.size 23 #[.slice A n c] := by rw [hwA]; exact ((Blk.new _ _ _).alloc _).alloc _
  have B3 : Blk wA (w.heap.size + 1) 3 #[.int .i64 d] := by rw [hwA]; exact (Blk.newAt _ _ _ (by simp)).alloc _
  have B4 : Blk wA (w.heap.size + 1 + 1) 41 #[.int .i64 0, .int .i64 0] := by rw [hwA]; exact Blk.newAt _ _ _ (by simp)
  have hXA := hX.frm hF
  have k2 : wA.cell? ⟨w.heap.size, 0, none⟩ = some (.slice A n c) := B2.cellIs rfl
  rw [hwA] at k2
  subst hdq
  have hck := chk_zero HE.out
  have hn1 := hck.1
  rw [hX.HN] at hn1
  have HO : Hid (okl xs xs.length) := hck.2
  obtain ⟨Q3, hQ3⟩ : ∃ Q3, Q3 = 3 * q := ⟨_, rfl⟩
  obtain ⟨Q2, hQ2⟩ : ∃ Q2, Q2 = 2 * q := ⟨_, rfl⟩
  obtain ⟨QQ, hQQ⟩ : ∃ QQ, QQ = 2 * q * q := ⟨_, rfl⟩
  obtain ⟨D, hDD⟩ : ∃ D, D = 2 * q * q * m := ⟨_, rfl⟩
  have hQQb : QQ ≤ 682 * 341 := by rw [hQQ]; exact Nat.mul_le_mul (by omega) (by omega)
  have hDb : D ≤ 682 * 341 * 1024 := by rw [hDD]; exact Nat.mul_le_mul (by rw [← hQQ]; exact hQQb) (by omega)
  have t1 : IntKind.i64.wrap (3 * (q : Int)) = (Q3 : Int) := by rw [IntWalk.i64_in _ (by omega)]; omega
  have t2 : IntKind.i64.wrap ((n : Int) - (Q3 : Int)) = (n : Int) - (Q3 : Int) := IntWalk.i64_in _ (by omega)
  have t2' : IntKind.i64.wrap ((n : Int) - (Q3 : Int) + 1) = (m : Int) := by rw [IntWalk.i64_in _ (by omega)]; omega
  have t3 : IntKind.i64.wrap (2 * (q : Int)) = (Q2 : Int) := by rw [IntWalk.i64_in _ (by omega)]; omega
  have t4 : IntKind.i64.wrap ((Q2 : Int) * (q : Int)) = (QQ : Int) := by rw [← Int.natCast_mul, hQ2, ← hQQ, IntWalk.i64_in _ (by omega)]
  have t5 : IntKind.i64.wrap ((QQ : Int) * (m : Int)) = (D : Int) := by rw [← Int.natCast_mul, hQQ, ← hDD, IntWalk.i64_in _ (by omega)]
  have g1 : decide ((q : Int) < 1) = false := decide_eq_false (by omega)
  have g2 : decide ((n : Int) < (q : Int)) = false := decide_eq_false (by omega)
  have g2' : decide (n < q) = false := decide_eq_false (by omega)
  have g3 : decide ((n : Int) < (Q3 : Int)) = false := decide_eq_false (by omega)
  have g3' : decide (n < Q3) = false := decide_eq_false (by omega)
  clear hQ2 hQ3 hQQ hck
  have HCC : Hid (∀ x1, Frm w x1 NoB → Blk x1 w.heap.size 23 #[.slice A n c] → Blk x1 (w.heap.size + 1) 3 #[.int .i64 (q : Int)] →
      ∀ wr g, Frm (x1.alloc (.cells #[.int .i64 (m : Int)] 3)) wr NoB → (x1.alloc (.cells #[.int .i64 (m : Int)] 3)).heap.size ≤ g → Blk wr g 65 #[.int .i64 0] →
      Calls Try.prog 43 #[.pointer (some ⟨g, 0, none⟩), .pointer (some ⟨w.heap.size + 1, 0, none⟩), .pointer (some ⟨w.heap.size, 0, none⟩), .pointer (some ⟨x1.heap.size, 0, none⟩)] wr fun e w' => e = .returned (.tuple #[]) ∧ Blk w' g 65 #[.int .i64 (sqs (mdA xs q) m : Nat)] ∧ Frm wr w' (· = g)) := by
    intro x1 fx b2 b3 wr g fr hg hb
    have fa := (Frm.refl x1 NoB).alloc (.cells #[.int .i64 (m : Int)] 3)
    have hsz : w.heap.size ≤ x1.heap.size := fx.size
    exact mod1_ok A n c q m B g (w.heap.size + 1) w.heap.size x1.heap.size xs wr (((hX.frm fx).frm fa).frm fr) HO hn1 hq hm hm1 (by have := hX.hB; simp at hg; omega) hb ((b3.frm fa (fun h => h)).frm fr (fun h => h)) ((b2.frm fa (fun h => h)).frm fr (fun h => h)) ((Blk.new x1 3 _).frm fr (fun h => h)) hs
  obtain ⟨S, hS⟩ : ∃ S, S = sqs (mdA xs q) m := ⟨_, rfl⟩
  rw [← hS] at hs HCC ⊢
  have hquo := fun w => quotient_t S (2 * q * q * m) w (by have h1 := Nat.mul_pos (Nat.mul_pos (show 0 < 2 * q by omega) (show 0 < q by omega)) (show 0 < m by omega); exact h1) hs (by rw [← hDD]; omega)
  have hD : ((2 * q * q * m : Nat) : Int) = (D : Int) := by rw [hDD]
  have hrat : ratI S (2 * q * q * m) = .agg #[.int .i64 (S / Nat.gcd S (2 * q * q * m) : Nat), .int .i64 (2 * q * q * m / Nat.gcd S (2 * q * q * m) : Nat)] := rfl
  rw [hD] at hquo
  rw [hrat]
  obtain ⟨X, hXX⟩ : ∃ X : Nat, X = S / Nat.gcd S (2 * q * q * m) := ⟨_, rfl⟩
  obtain ⟨Y, hYY⟩ : ∃ Y : Nat, Y = 2 * q * q * m / Nat.gcd S (2 * q * q * m) := ⟨_, rfl⟩
  rw [← hXX, ← hYY] at hquo ⊢
  have HQUO := Lib.hid hquo
  clear hquo hD hrat hXX hYY hS hs hm hDD
  go_enter Try.func27, Try.ntmps27
  go_wp2_with (first
    | (go_at_call 23; rw [← hwA]; (with_reducible refine (check_b HE hXA).mono ?_); rintro e x1 ⟨rfl, f1⟩; replace hF := hF.trans f1 (fun _ _ h => h); replace B2 := B2.frm f1 (fun h => h); replace B3 := B3.frm f1 (fun h => h); replace B4 := B4.frm f1 (fun h => h); replace hXA := hXA.frm f1; have l2 := B2.cellIs (i := 0) rfl; have l3 := B3.cellIs (i := 0) rfl; have z0 := B4.frozen 0; have z1 := B4.frozen 1; have g0 := B4.cellIs (i := 0) rfl; have g1 := B4.cellIs (i := 1) rfl; clear f1; have HC2 : Hid (∀ wr g, Frm (x1.alloc (.cells #[.int .i64 (m : Int)] 3)) wr NoB → (x1.alloc (.cells #[.int .i64 (m : Int)] 3)).heap.size ≤ g → Blk wr g 65 #[.int .i64 0] → _) := HCC.out x1 hF B2 B3; have B5 : Blk (x1.alloc (.cells #[.int .i64 (m : Int)] 3)) x1.heap.size 3 #[.int .i64 (m : Int)] := Blk.new _ _ _)
    | (go_at_call 35; (with_reducible refine (safe43_ok _ _ _ S _ HC2).mono ?_); rintro e x2 ⟨rfl, f2⟩; have B5c := (B5.frm f2 (fun h => h)).cellIs (i := 0) rfl; have fA := ((Frm.refl x1 NoB).alloc (.cells #[.int .i64 (m : Int)] 3)).trans f2 (fun _ _ h => h); replace hF := hF.trans fA (fun _ _ h => h); replace B4 := B4.frm fA (fun h => h); replace B3 := B3.frm fA (fun h => h); have l3 := B3.cellIs (i := 0) rfl; clear f2 fA; have z0 := B4.frozen 0; have z1 := B4.frozen 1; have g0 := B4.cellIs (i := 0) rfl; have g1 := B4.cellIs (i := 1) rfl)
    | (go_at_call 39; (with_reducible refine (HQUO.out _).mono ?_); rintro e x3 ⟨rfl, f1⟩; replace hF := hF.trans f1 (fun _ _ h => h); replace B4 := B4.frm f1 (fun h => h); have z0 := B4.frozen 0; have z1 := B4.frozen 1; have g0 := B4.cellIs (i := 0) rfl; have g1 := B4.cellIs (i := 1) rfl))
  have B4a := (B4.put 0 (.int .i64 (X : Int))).put 1 (.int .i64 (Y : Int))
  have hF4 := (hF.put (b := w.heap.size + 1 + 1) (fun h => absurd h (by omega)) 0 (.int .i64 (X : Int))).put (b := w.heap.size + 1 + 1) (fun h => absurd h (by omega)) 1 (.int .i64 (Y : Int))
  have c0 := B4a.cellIs (i := 0) rfl
  have c1 := B4a.cellIs (i := 1) rfl
  refine bodyPost_ret (v := .tuple #[.agg #[(.int .i64 (X : Int)), (.int .i64 (Y : Int))], .int .i64 0]) (by simp [results, Try.results27, go_sem, c0, c1]) rfl ?_
  exact ⟨rfl, hF4⟩

set_option maxHeartbeats 8000000 in
theorem modif_over (hX : LI w A n B xs) (HE : Hid (chk xs = 0)) (hq : 1 ≤ q) (hm : m + 3 * q = n + 1) (hm1 : 1 ≤ m) (hs : 9223372036854775807 < sqs (mdA xs q) m) :
    Calls Try.prog 27 #[.slice A n c, .int .i64 (q : Int)] w fun e w' => e = .returned (.tuple #[.agg #[.int .i64 0, .int .i64 0], .int .i64 4]) ∧ Frm w w' NoB := by
  obtain ⟨d, hdq⟩ : ∃ d : Int, d = (q : Int) := ⟨_, rfl⟩
  rw [← hdq]
  have hmf : ∀ (fn : Fn) (first cap : Array Value) (w : World), (Instr.makeFunc fn first cap).run Try.prog w = .ok (.func fn first cap) w := fun _ _ _ _ => rfl
  obtain ⟨wA, hwA⟩ : ∃ wA, wA = ((w.alloc (.cells #[.slice A n c] 23)).alloc (.cells #[.int .i64 d] 3)).alloc (.cells #[.int .i64 0, .int .i64 0] 41) := ⟨_, rfl⟩
  have hF : Frm w wA NoB := by rw [hwA]; exact (((Frm.refl w NoB).alloc _).alloc _).alloc _
  have B2 : Blk wA w.heap.size 23 #[.slice A n c] := by rw [hwA]; exact ((Blk.new _ _ _).alloc _).alloc _
  have B3 : Blk wA (w.heap.size + 1) 3 #[.int .i64 d] := by rw [hwA]; exact (Blk.newAt _ _ _ (by simp)).alloc _
  have B4 : Blk wA (w.heap.size + 1 + 1) 41 #[.int .i64 0, .int .i64 0] := by rw [hwA]; exact Blk.newAt _ _ _ (by simp)
  have hXA := hX.frm hF
  have k2 : wA.cell? ⟨w.heap.size, 0, none⟩ = some (.slice A n c) := B2.cellIs rfl
  rw [hwA] at k2
  subst hdq
  have hck := chk_zero HE.out
  have hn1 := hck.1
  rw [hX.HN] at hn1
  have HO : Hid (okl xs xs.length) := hck.2
  obtain ⟨Q3, hQ3⟩ : ∃ Q3, Q3 = 3 * q := ⟨_, rfl⟩
  obtain ⟨Q2, hQ2⟩ : ∃ Q2, Q2 = 2 * q := ⟨_, rfl⟩
  obtain ⟨QQ, hQQ⟩ : ∃ QQ, QQ = 2 * q * q := ⟨_, rfl⟩
  obtain ⟨D, hDD⟩ : ∃ D, D = 2 * q * q * m := ⟨_, rfl⟩
  have hQQb : QQ ≤ 682 * 341 := by rw [hQQ]; exact Nat.mul_le_mul (by omega) (by omega)
  have hDb : D ≤ 682 * 341 * 1024 := by rw [hDD]; exact Nat.mul_le_mul (by rw [← hQQ]; exact hQQb) (by omega)
  have t1 : IntKind.i64.wrap (3 * (q : Int)) = (Q3 : Int) := by rw [IntWalk.i64_in _ (by omega)]; omega
  have t2 : IntKind.i64.wrap ((n : Int) - (Q3 : Int)) = (n : Int) - (Q3 : Int) := IntWalk.i64_in _ (by omega)
  have t2' : IntKind.i64.wrap ((n : Int) - (Q3 : Int) + 1) = (m : Int) := by rw [IntWalk.i64_in _ (by omega)]; omega
  have t3 : IntKind.i64.wrap (2 * (q : Int)) = (Q2 : Int) := by rw [IntWalk.i64_in _ (by omega)]; omega
  have t4 : IntKind.i64.wrap ((Q2 : Int) * (q : Int)) = (QQ : Int) := by rw [← Int.natCast_mul, hQ2, ← hQQ, IntWalk.i64_in _ (by omega)]
  have t5 : IntKind.i64.wrap ((QQ : Int) * (m : Int)) = (D : Int) := by rw [← Int.natCast_mul, hQQ, ← hDD, IntWalk.i64_in _ (by omega)]
  have g1 : decide ((q : Int) < 1) = false := decide_eq_false (by omega)
  have g2 : decide ((n : Int) < (q : Int)) = false := decide_eq_false (by omega)
  have g2' : decide (n < q) = false := decide_eq_false (by omega)
  have g3 : decide ((n : Int) < (Q3 : Int)) = false := decide_eq_false (by omega)
  have g3' : decide (n < Q3) = false := decide_eq_false (by omega)
  clear hQ2 hQ3 hQQ hck
  have HCC : Hid (∀ x1, Frm w x1 NoB → Blk x1 w.heap.size 23 #[.slice A n c] → Blk x1 (w.heap.size + 1) 3 #[.int .i64 (q : Int)] →
      ∀ wr g, Frm (x1.alloc (.cells #[.int .i64 (m : Int)] 3)) wr NoB → (x1.alloc (.cells #[.int .i64 (m : Int)] 3)).heap.size ≤ g → Blk wr g 65 #[.int .i64 0] →
      Calls Try.prog 43 #[.pointer (some ⟨g, 0, none⟩), .pointer (some ⟨w.heap.size + 1, 0, none⟩), .pointer (some ⟨w.heap.size, 0, none⟩), .pointer (some ⟨x1.heap.size, 0, none⟩)] wr fun e w' => e = .panicked ovr ∧ Frm wr w' (· = g)) := by
    intro x1 fx b2 b3 wr g fr hg hb
    have fa := (Frm.refl x1 NoB).alloc (.cells #[.int .i64 (m : Int)] 3)
    have hsz : w.heap.size ≤ x1.heap.size := fx.size
    exact mod1_bad A n c q m B g (w.heap.size + 1) w.heap.size x1.heap.size xs wr (((hX.frm fx).frm fa).frm fr) HO hn1 hq hm hm1 (by have := hX.hB; simp at hg; omega) hb ((b3.frm fa (fun h => h)).frm fr (fun h => h)) ((b2.frm fa (fun h => h)).frm fr (fun h => h)) ((Blk.new x1 3 _).frm fr (fun h => h)) hs
  clear hs hm hDD
  go_enter Try.func27, Try.ntmps27
  go_wp2_with (first
    | (go_at_call 23; rw [← hwA]; (with_reducible refine (check_b HE hXA).mono ?_); rintro e x1 ⟨rfl, f1⟩; replace hF := hF.trans f1 (fun _ _ h => h); replace B2 := B2.frm f1 (fun h => h); replace B3 := B3.frm f1 (fun h => h); replace B4 := B4.frm f1 (fun h => h); replace hXA := hXA.frm f1; have l2 := B2.cellIs (i := 0) rfl; have l3 := B3.cellIs (i := 0) rfl; have z0 := B4.frozen 0; have z1 := B4.frozen 1; have g0 := B4.cellIs (i := 0) rfl; have g1 := B4.cellIs (i := 1) rfl; clear f1; have HC2 : Hid (∀ wr g, Frm (x1.alloc (.cells #[.int .i64 (m : Int)] 3)) wr NoB → (x1.alloc (.cells #[.int .i64 (m : Int)] 3)).heap.size ≤ g → Blk wr g 65 #[.int .i64 0] → _) := HCC.out x1 hF B2 B3; have B5 : Blk (x1.alloc (.cells #[.int .i64 (m : Int)] 3)) x1.heap.size 3 #[.int .i64 (m : Int)] := Blk.new _ _ _)
    | (go_at_call 35; (with_reducible refine (safe43_bad _ _ _ _ HC2).mono ?_); rintro e x2 ⟨rfl, f2⟩; have B5c := (B5.frm f2 (fun h => h)).cellIs (i := 0) rfl; have fA := ((Frm.refl x1 NoB).alloc (.cells #[.int .i64 (m : Int)] 3)).trans f2 (fun _ _ h => h); replace hF := hF.trans fA (fun _ _ h => h); replace B4 := B4.frm fA (fun h => h); replace B3 := B3.frm fA (fun h => h); have l3 := B3.cellIs (i := 0) rfl; clear f2 fA; have z0 := B4.frozen 0; have z1 := B4.frozen 1; have g0 := B4.cellIs (i := 0) rfl; have g1 := B4.cellIs (i := 1) rfl))
  have B4a := (B4.put 0 (.int .i64 0)).put 1 (.int .i64 0)
  have hF4 := (hF.put (b := w.heap.size + 1 + 1) (fun h => absurd h (by omega)) 0 (.int .i64 0)).put (b := w.heap.size + 1 + 1) (fun h => absurd h (by omega)) 1 (.int .i64 0)
  have c0 := B4a.cellIs (i := 0) rfl
  have c1 := B4a.cellIs (i := 1) rfl
  refine bodyPost_ret (v := .tuple #[.agg #[(.int .i64 0), (.int .i64 0)], .int .i64 4]) (by simp [results, Try.results27, go_sem, c0, c1]) rfl ?_
  exact ⟨rfl, hF4⟩
end
section
variable {A : Option Addr} {n c B : Nat} {xs : List Int} {d e0 : Int} {R : Value} {w : World}
/-- Modified of the program. -/
theorem modif_s (HE : Hid (moE xs d = e0)) (HR : Hid (moR xs d = R)) (hX : LI w A n B xs) :
    Calls Try.prog 27 #[.slice A n c, .int .i64 d] w fun e w' => e = .returned (.tuple #[R, .int .i64 e0]) ∧ Frm w w' NoB := by
  rw [← HE.out, ← HR.out]
  by_cases h0 : chk xs = 0
  · by_cases h1 : d < 1 ∨ (xs.length : Int) < d ∨ (xs.length : Int) < 3 * d
    · have he : moE xs d = 3 := by unfold moE; rw [if_neg (not_not_intro h0), if_pos h1]
      unfold moR
      rw [he, if_neg (by decide)]
      exact modif_rng A n c B xs d w hX h0 (by rw [← hX.HN]; exact h1)
    · obtain ⟨q, rfl⟩ : ∃ q : Nat, d = (q : Int) := ⟨d.toNat, by omega⟩
      have hN := hX.HN
      have hq : 1 ≤ q := by omega
      have hm : (xs.length + 1 - 3 * q) + 3 * q = n + 1 := by omega
      have hm1 : 1 ≤ xs.length + 1 - 3 * q := by omega
      by_cases h2 : sqs (mdA xs q) (xs.length + 1 - 3 * q) ≤ 9223372036854775807
      · have he : moE xs (q : Int) = 0 := by unfold moE; rw [if_neg (not_not_intro h0), if_neg h1, Int.toNat_natCast, if_pos h2]
        unfold moR
        rw [he, if_pos rfl, Int.toNat_natCast]
        exact modif_ok A n c B q (xs.length + 1 - 3 * q) xs w hX h0 hq hm hm1 h2
      · have he : moE xs (q : Int) = 4 := by unfold moE; rw [if_neg (not_not_intro h0), if_neg h1, Int.toNat_natCast, if_neg h2]
        unfold moR
        rw [he, if_neg (by decide)]
        exact modif_over A n c B q (xs.length + 1 - 3 * q) xs w hX h0 hq hm hm1 (by omega)
  · have he : moE xs d = chk xs := by unfold moE; rw [if_pos h0]
    unfold moR
    rw [he, if_neg h0]
    exact modif_chk A n c B xs d w hX (chk xs) rfl h0
end
end Go.Proofs.Ythpakpljfgmkfaa
