/- The function equal of the statements. -/
import Derived.Test.YthpakpljfgmkfaaW36
namespace Go.Proofs.Ythpakpljfgmkfaa
open Go.RowKit

section
variable (w : World)
set_option maxHeartbeats 4000000 in
theorem equal_zero (v : Int) : Calls Try.prog 29 #[.agg #[.int .i64 0, .int .i64 0], .agg #[.int .i64 0, .int .i64 0], .int .i64 v] w fun e w' => e = .returned (.bool true) ∧ Frm w w' NoB := by
  have hF : Frm w w NoB := Frm.refl w _
  have hF2 := (hF.alloc (.cells #[.int .i64 0, .int .i64 0] 41)).alloc (.cells #[.int .i64 0, .int .i64 0] 41)
  have b3 := (Blk.new w 41 #[.int .i64 0, .int .i64 0]).alloc (.cells #[.int .i64 0, .int .i64 0] 41)
  have b4 : Blk ((w.alloc (.cells #[.int .i64 0, .int .i64 0] 41)).alloc (.cells #[.int .i64 0, .int .i64 0] 41)) (w.heap.size + 1) 41 #[.int .i64 0, .int .i64 0] := Blk.newAt _ _ _ (by simp)
  have k1 := b3.cellIs (i := 0) rfl
  have k2 := b3.cellIs (i := 1) rfl
  have k3 := b4.cellIs (i := 0) rfl
  have k4 := b4.cellIs (i := 1) rfl
  go_enter Try.func29, Try.ntmps29
  go_wp2
  go_ret
  exact ⟨rfl, hF2⟩
set_option maxHeartbeats 8000000 in
theorem equal_t (X Y K2 : Nat) (hY : 0 < Y) (hY2 : Y ≤ 9223372036854775807) (hK : K2 ≤ 9223372036854775807) (hU : X * (K2 / Nat.gcd K2 Y) ≤ 9223372036854775807) :
    Calls Try.prog 29 #[.agg #[.int .i64 ((X * (K2 / Nat.gcd K2 Y) : Nat) : Int), .int .i64 ((Y / Nat.gcd K2 Y : Nat) : Int)], .agg #[.int .i64 (X : Int), .int .i64 (Y : Int)], .int .i64 (K2 : Int)] w fun e w' => e = .returned (.bool true) ∧ Frm w w' NoB := by
  obtain ⟨g, hg⟩ : ∃ g, g = Nat.gcd K2 Y := ⟨_, rfl⟩
  have hg0 : 0 < g := by rw [hg]; exact Nat.gcd_pos_of_pos_right _ hY
  rw [← hg] at hU ⊢
  obtain ⟨V, hV⟩ : ∃ V, V = Y / g := ⟨_, rfl⟩
  obtain ⟨Q, hQ⟩ : ∃ Q, Q = K2 / g := ⟨_, rfl⟩
  obtain ⟨U, hU2⟩ : ∃ U, U = X * Q := ⟨_, rfl⟩
  rw [← hQ, ← hU2] at hU ⊢
  rw [← hV]
  have hVb : V ≤ Y := by rw [hV]; exact Nat.div_le_self _ _
  have hQb : Q ≤ K2 := by rw [hQ]; exact Nat.div_le_self _ _
  have t1 : ((K2 : Int)).tdiv (g : Int) = (Q : Int) := by rw [hQ]; rfl
  have t2 : ((Y : Int)).tdiv (g : Int) = (V : Int) := by rw [hV]; rfl
  have t3 : IntKind.i64.wrap (Q : Int) = (Q : Int) := IntWalk.i64_in _ (by omega)
  have t4 : IntKind.i64.wrap (V : Int) = (V : Int) := IntWalk.i64_in _ (by omega)
  have t5 : IntKind.i64.wrap ((X : Int) * (Q : Int)) = (U : Int) := by rw [← Int.natCast_mul, ← hU2, IntWalk.i64_in _ (by omega)]
  have g1 : decide ((Y : Int) < 1) = false := decide_eq_false (by omega)
  have g2 : ¬ (Y : Int) < 1 := by omega
  have g3 : ¬ Y = 0 := by omega
  have hne : (g : Int) ≠ 0 := by omega
  have hne2 : ¬ g = 0 := by omega
  have HG := Lib.hid hg.symm
  have hF : Frm w w NoB := Frm.refl w _
  obtain ⟨w2, hw2⟩ : ∃ w2, w2 = (w.alloc (.cells #[.int .i64 (U : Int), .int .i64 (V : Int)] 41)).alloc (.cells #[.int .i64 (X : Int), .int .i64 (Y : Int)] 41) := ⟨_, rfl⟩
  have hF2 : Frm w w2 NoB := by rw [hw2]; exact (hF.alloc _).alloc _
  have b3 : Blk w2 w.heap.size 41 #[.int .i64 (U : Int), .int .i64 (V : Int)] := by rw [hw2]; exact (Blk.new w 41 _).alloc _
  have b4 : Blk w2 (w.heap.size + 1) 41 #[.int .i64 (X : Int), .int .i64 (Y : Int)] := by rw [hw2]; exact Blk.newAt _ _ _ (by simp)
  have k1 := b3.cellIs (i := 0) rfl
  have k2 := b3.cellIs (i := 1) rfl
  have k3 := b4.cellIs (i := 0) rfl
  have k4 := b4.cellIs (i := 1) rfl
  clear hg hV hQ hU2 hVb hQb hU hF
  rw [hw2] at k1 k2 k3 k4
  go_enter Try.func29, Try.ntmps29
  go_wp2
  go_quiet (fail)
  rw [← hw2]
  clear hw2 k1 k2 k3 k4
  go_wp2
  go_loopw [7, 8] (fun u v wr => ∃ p y : Nat, p ≤ 9223372036854775807 ∧ y ≤ 9223372036854775807 ∧ u = .int .i64 p ∧ v = .int .i64 y ∧ Hid (Nat.gcd p y = g) ∧ Frm w wr NoB ∧ Blk wr w.heap.size 41 #[.int .i64 (U : Int), .int .i64 (V : Int)] ∧ Blk wr (w.heap.size + 1) 41 #[.int .i64 (X : Int), .int .i64 (Y : Int)]) (fun _ v _ => (intOf v).toNat)
  case atStart => exact ⟨K2, Y, hK, hY2, rfl, rfl, HG, hF2.drewN _, b3.drewN _, b4.drewN _⟩
  case round =>
    clear hF2 b3 b4
    obtain ⟨p, y, hp, hy, rfl, rfl, HP, hF, b3, b4⟩ := hrel
    by_cases h0 : y = 0
    · subst h0
      have hp1 : p = g := by have := HP.out; rw [Nat.gcd_zero_right] at this; exact this
      subst hp1
      have k1 := b3.cellIs (i := 0) rfl
      have k2 := b3.cellIs (i := 1) rfl
      have k3 := b4.cellIs (i := 0) rfl
      have k4 := b4.cellIs (i := 1) rfl
      go_wp2
      go_quiet (fail)
      go_wp2
      go_ret
      exact ⟨rfl, hF.drewN _⟩
    · have hb : decide ((0 : Int) < (y : Int)) = true := decide_eq_true (by omega)
      have hney : (y : Int) ≠ 0 := by omega
      have hpos : 0 < y := by omega
      have hlt := Nat.mod_lt p hpos
      obtain ⟨r, hr⟩ : ∃ r, r = p % y := ⟨_, rfl⟩
      have u1 : ((p : Int)).tmod (y : Int) = (r : Int) := by rw [hr]; rfl
      have u2 : IntKind.i64.wrap (r : Int) = (r : Int) := IntWalk.i64_in _ (by omega)
      have HG2 : Hid (Nat.gcd y r = g) := by unfold Hid; rw [hr, ← HP.out, Nat.gcd_comm p y, Nat.gcd_rec y p, Nat.gcd_comm]
      have hry : r < y := by omega
      clear hr hlt
      go_wp2
      go_quiet (fail)
      go_wp2
      go_roundw
      case rel => exact ⟨y, r, hy, by omega, by trivial, by trivial, HG2, hF.drewN _, b3.drewN _, b4.drewN _⟩
      case measure => simp [intOf]; omega
end
end Go.Proofs.Ythpakpljfgmkfaa
