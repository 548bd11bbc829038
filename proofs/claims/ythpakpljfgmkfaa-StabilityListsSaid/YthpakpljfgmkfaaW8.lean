/- safely, with the closures of Allan and of Modified. -/
import Derived.Test.YthpakpljfgmkfaaW7
namespace Go.Proofs.Ythpakpljfgmkfaa
open Go.RowKit

section
variable (c1 c2 c3 : Value) (S : Nat) (w : World)
set_option maxHeartbeats 4000000 in
theorem safe36_ok (HC : Hid (∀ wr g, Frm w wr NoB → w.heap.size ≤ g → Blk wr g 65 #[.int .i64 0] → Calls Try.prog 36 #[.pointer (some ⟨g, 0, none⟩), c1, c2, c3] wr fun e w' => e = .returned (.tuple #[]) ∧ Blk w' g 65 #[.int .i64 (S : Int)] ∧ Frm wr w' (· = g))) :
    Calls Try.prog 35 #[.func (.func 36) #[] #[c1, c2, c3]] w fun e w' => e = .returned (.tuple #[.int .i64 (S : Int), .int .i64 0]) ∧ Frm w w' NoB := by
  have hmf : ∀ (fn : Fn) (first cap : Array Value) (w : World), (Instr.makeFunc fn first cap).run Try.prog w = .ok (.func fn first cap) w := fun _ _ _ _ => rfl
  obtain ⟨wA, hwA⟩ : ∃ wA, wA = ((w.alloc (.cells #[.int .i64 0] 3)).alloc (.cells #[.int .i64 0] 25)).alloc (.cells #[.int .i64 0] 65) := ⟨_, rfl⟩
  have hF : Frm w wA NoB := by rw [hwA]; exact (((Frm.refl w NoB).alloc _).alloc _).alloc _
  have B1 : Blk wA w.heap.size 3 #[.int .i64 0] := by rw [hwA]; exact ((Blk.new _ _ _).alloc _).alloc _
  have B2 : Blk wA (w.heap.size + 1) 25 #[.int .i64 0] := by rw [hwA]; exact (Blk.newAt _ _ _ (by simp)).alloc _
  have B3 : Blk wA (w.heap.size + 2) 65 #[.int .i64 0] := by rw [hwA]; exact Blk.newAt _ _ _ (by simp)
  go_enter_defers Try.func35, Try.ntmps35
  go_wp2_with (first
    | (go_at_call 36; rw [← hwA]; (with_reducible refine (HC.out wA _ hF (by omega) B3).mono ?_); rintro e x1 ⟨rfl, B3', f1⟩; have B1' := B1.frm f1 (fun e => by omega); have B2' := B2.frm f1 (fun e => by omega); have g3 := B3'.cellIs (i := 0) rfl; have g1 := B1'.cellIs (i := 0) rfl; have z1 := B1'.frozen 0; have g2 := B2'.cellIs (i := 0) rfl; have z2 := B2'.frozen 0))
  have B1a := (B1'.put 0 (.int .i64 (S : Int))).away (b := w.heap.size + 1) (by omega) 0 (.int .i64 0)
  have B2a := (B2'.away (b := w.heap.size) (by omega) 0 (.int .i64 (S : Int))).put 0 (.int .i64 0)
  have hF2 := ((hF.trans f1 (fun i h1 h2 => absurd h1 (by omega))).put (b := w.heap.size) (fun h => absurd h (Nat.lt_irrefl _)) 0 (.int .i64 (S : Int))).put (b := w.heap.size + 1) (fun h => absurd h (by omega)) 0 (.int .i64 0)
  generalize ((x1.setCell ⟨w.heap.size, 0, none⟩ (.int .i64 (S : Int))).setCell ⟨w.heap.size + 1, 0, none⟩ (.int .i64 0)) = w3 at *
  have e1 := B1a.cellIs (i := 0) rfl
  have e2 := B2a.cellIs (i := 0) rfl
  refine leaves_cons (f := 48) (args := #[.pointer (some ⟨w.heap.size, 0, none⟩), .pointer (some ⟨w.heap.size + 1, 0, none⟩)]) (by simp) (by simp [go_sem]) ?_
  refine (catch_idle _ _ _).mono ?_
  rintro e u' w'' ⟨rfl, rfl, rfl⟩
  simp [Leaves, settle, results, Try.results35, go_sem, e1, e2]
  exact hF2
set_option maxHeartbeats 4000000 in
theorem safe36_bad (HC : Hid (∀ wr g, Frm w wr NoB → w.heap.size ≤ g → Blk wr g 65 #[.int .i64 0] → Calls Try.prog 36 #[.pointer (some ⟨g, 0, none⟩), c1, c2, c3] wr fun e w' => e = .panicked ovr ∧ Frm wr w' (· = g))) :
    Calls Try.prog 35 #[.func (.func 36) #[] #[c1, c2, c3]] w fun e w' => e = .returned (.tuple #[.int .i64 0, .int .i64 4]) ∧ Frm w w' NoB := by
  have hmf : ∀ (fn : Fn) (first cap : Array Value) (w : World), (Instr.makeFunc fn first cap).run Try.prog w = .ok (.func fn first cap) w := fun _ _ _ _ => rfl
  obtain ⟨wA, hwA⟩ : ∃ wA, wA = ((w.alloc (.cells #[.int .i64 0] 3)).alloc (.cells #[.int .i64 0] 25)).alloc (.cells #[.int .i64 0] 65) := ⟨_, rfl⟩
  have hF : Frm w wA NoB := by rw [hwA]; exact (((Frm.refl w NoB).alloc _).alloc _).alloc _
  have B1 : Blk wA w.heap.size 3 #[.int .i64 0] := by rw [hwA]; exact ((Blk.new _ _ _).alloc _).alloc _
  have B2 : Blk wA (w.heap.size + 1) 25 #[.int .i64 0] := by rw [hwA]; exact (Blk.newAt _ _ _ (by simp)).alloc _
  have B3 : Blk wA (w.heap.size + 2) 65 #[.int .i64 0] := by rw [hwA]; exact Blk.newAt _ _ _ (by simp)
  go_enter_defers Try.func35, Try.ntmps35
  go_wp2_with (first
    | (go_at_call 36; rw [← hwA]; (with_reducible refine (HC.out wA _ hF (by omega) B3).mono ?_); rintro e x1 ⟨rfl, f1⟩; have B1' := B1.frm f1 (fun e => by omega); have B2' := B2.frm f1 (fun e => by omega)))
  have hF2 := hF.trans f1 (fun i h1 h2 => absurd h1 (by omega))
  refine leaves_cons (f := 48) (args := #[.pointer (some ⟨w.heap.size, 0, none⟩), .pointer (some ⟨w.heap.size + 1, 0, none⟩)]) (by simp) (by simp [go_sem]) ?_
  refine (catch_panicking _ _ _ _ _ _ B1' B2').mono ?_
  rintro e u' w'' ⟨rfl, rfl, B1b, B2b, f2⟩
  have e1 := B1b.cellIs (i := 0) rfl
  have e2 := B2b.cellIs (i := 0) rfl
  simp [Leaves, settle, results, Try.results35, go_sem, e1, e2]
  exact hF2.trans f2 (fun i h1 h2 => absurd h1 (by omega))
set_option maxHeartbeats 4000000 in
theorem safe43_ok (HC : Hid (∀ wr g, Frm w wr NoB → w.heap.size ≤ g → Blk wr g 65 #[.int .i64 0] → Calls Try.prog 43 #[.pointer (some ⟨g, 0, none⟩), c1, c2, c3] wr fun e w' => e = .returned (.tuple #[]) ∧ Blk w' g 65 #[.int .i64 (S : Int)] ∧ Frm wr w' (· = g))) :
    Calls Try.prog 35 #[.func (.func 43) #[] #[c1, c2, c3]] w fun e w' => e = .returned (.tuple #[.int .i64 (S : Int), .int .i64 0]) ∧ Frm w w' NoB := by
  have hmf : ∀ (fn : Fn) (first cap : Array Value) (w : World), (Instr.makeFunc fn first cap).run Try.prog w = .ok (.func fn first cap) w := fun _ _ _ _ => rfl
  obtain ⟨wA, hwA⟩ : ∃ wA, wA = ((w.alloc (.cells #[.int .i64 0] 3)).alloc (.cells #[.int .i64 0] 25)).alloc (.cells #[.int .i64 0] 65) := ⟨_, rfl⟩
  have hF : Frm w wA NoB := by rw [hwA]; exact (((Frm.refl w NoB).alloc _).alloc _).alloc _
  have B1 : Blk wA w.heap.size 3 #[.int .i64 0] := by rw [hwA]; exact ((Blk.new _ _ _).alloc _).alloc _
  have B2 : Blk wA (w.heap.size + 1) 25 #[.int .i64 0] := by rw [hwA]; exact (Blk.newAt _ _ _ (by simp)).alloc _
  have B3 : Blk wA (w.heap.size + 2) 65 #[.int .i64 0] := by rw [hwA]; exact Blk.newAt _ _ _ (by simp)
  go_enter_defers Try.func35, Try.ntmps35
  go_wp2_with (first
    | (go_at_call 43; rw [← hwA]; (with_reducible refine (HC.out wA _ hF (by omega) B3).mono ?_); rintro e x1 ⟨rfl, B3', f1⟩; have B1' := B1.frm f1 (fun e => by omega); have B2' := B2.frm f1 (fun e => by omega); have g3 := B3'.cellIs (i := 0) rfl; have g1 := B1'.cellIs (i := 0) rfl; have z1 := B1'.frozen 0; have g2 := B2'.cellIs (i := 0) rfl; have z2 := B2'.frozen 0))
  have B1a := (B1'.put 0 (.int .i64 (S : Int))).away (b := w.heap.size + 1) (by omega) 0 (.int .i64 0)
  have B2a := (B2'.away (b := w.heap.size) (by omega) 0 (.int .i64 (S : Int))).put 0 (.int .i64 0)
  have hF2 := ((hF.trans f1 (fun i h1 h2 => absurd h1 (by omega))).put (b := w.heap.size) (fun h => absurd h (Nat.lt_irrefl _)) 0 (.int .i64 (S : Int))).put (b := w.heap.size + 1) (fun h => absurd h (by omega)) 0 (.int .i64 0)
  generalize ((x1.setCell ⟨w.heap.size, 0, none⟩ (.int .i64 (S : Int))).setCell ⟨w.heap.size + 1, 0, none⟩ (.int .i64 0)) = w3 at *
  have e1 := B1a.cellIs (i := 0) rfl
  have e2 := B2a.cellIs (i := 0) rfl
  refine leaves_cons (f := 48) (args := #[.pointer (some ⟨w.heap.size, 0, none⟩), .pointer (some ⟨w.heap.size + 1, 0, none⟩)]) (by simp) (by simp [go_sem]) ?_
  refine (catch_idle _ _ _).mono ?_
  rintro e u' w'' ⟨rfl, rfl, rfl⟩
  simp [Leaves, settle, results, Try.results35, go_sem, e1, e2]
  exact hF2
set_option maxHeartbeats 4000000 in
theorem safe43_bad (HC : Hid (∀ wr g, Frm w wr NoB → w.heap.size ≤ g → Blk wr g 65 #[.int .i64 0] → Calls Try.prog 43 #[.pointer (some ⟨g, 0, none⟩), c1, c2, c3] wr fun e w' => e = .panicked ovr ∧ Frm wr w' (· = g))) :
    Calls Try.prog 35 #[.func (.func 43) #[] #[c1, c2, c3]] w fun e w' => e = .returned (.tuple #[.int .i64 0, .int .i64 4]) ∧ Frm w w' NoB := by
  have hmf : ∀ (fn : Fn) (first cap : Array Value) (w : World), (Instr.makeFunc fn first cap).run Try.prog w = .ok (.func fn first cap) w := fun _ _ _ _ => rfl
  obtain ⟨wA, hwA⟩ : ∃ wA, wA = ((w.alloc (.cells #[.int .i64 0] 3)).alloc (.cells #[.int .i64 0] 25)).alloc (.cells #[.int .i64 0] 65) := ⟨_, rfl⟩
  have hF : Frm w wA NoB := by rw [hwA]; exact (((Frm.refl w NoB).alloc _).alloc _).alloc _
  have B1 : Blk wA w.heap.size 3 #[.int .i64 0] := by rw [hwA]; exact ((Blk.new _ _ _).alloc _).alloc _
  have B2 : Blk wA (w.heap.size + 1) 25 #[.int .i64 0] := by rw [hwA]; exact (Blk.newAt _ _ _ (by simp)).alloc _
  have B3 : Blk wA (w.heap.size + 2) 65 #[.int .i64 0] := by rw [hwA]; exact Blk.newAt _ _ _ (by simp)
  go_enter_defers Try.func35, Try.ntmps35
  go_wp2_with (first
    | (go_at_call 43; rw [← hwA]; (with_reducible refine (HC.out wA _ hF (by omega) B3).mono ?_); rintro e x1 ⟨rfl, f1⟩; have B1' := B1.frm f1 (fun e => by omega); have B2' := B2.frm f1 (fun e => by omega)))
  have hF2 := hF.trans f1 (fun i h1 h2 => absurd h1 (by omega))
  refine leaves_cons (f := 48) (args := #[.pointer (some ⟨w.heap.size, 0, none⟩), .pointer (some ⟨w.heap.size + 1, 0, none⟩)]) (by simp) (by simp [go_sem]) ?_
  refine (catch_panicking _ _ _ _ _ _ B1' B2').mono ?_
  rintro e u' w'' ⟨rfl, rfl, B1b, B2b, f2⟩
  have e1 := B1b.cellIs (i := 0) rfl
  have e2 := B2b.cellIs (i := 0) rfl
  simp [Leaves, settle, results, Try.results35, go_sem, e1, e2]
  exact hF2.trans f2 (fun i h1 h2 => absurd h1 (by omega))
end
end Go.Proofs.Ythpakpljfgmkfaa
