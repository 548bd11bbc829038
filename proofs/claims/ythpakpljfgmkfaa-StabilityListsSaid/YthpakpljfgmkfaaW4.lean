/- A quotient in lowest terms; the product of two words; a square added to a total. -/
import Derived.Test.YthpakpljfgmkfaaW3
import Derived.StillTailTactics
import Derived.Lib.Mul64
import Derived.Laws.Bits64b
namespace Go.Proofs.Ythpakpljfgmkfaa
open Go.RowKit

set_option maxHeartbeats 4000000 in
theorem quotient_t (x d : Nat) (w : World) (hd : 0 < d) (hx : x ≤ 9223372036854775807) (hd2 : d ≤ 9223372036854775807) :
    Calls Try.prog 39 #[.int .i64 (x : Int), .int .i64 (d : Int)] w fun e w' => e = .returned (.agg #[.int .i64 (x / Nat.gcd x d : Nat), .int .i64 (d / Nat.gcd x d : Nat)]) ∧ Frm w w' NoB := by
  have hF : Frm w (w.alloc (.cells #[.int .i64 0, .int .i64 0] 41)) NoB := (Frm.refl w NoB).alloc _
  have hB : Blk (w.alloc (.cells #[.int .i64 0, .int .i64 0] 41)) w.heap.size 41 #[.int .i64 0, .int .i64 0] := Blk.new _ _ _
  have hdv := fun w => divisor_t x d w hx hd2
  have hg : 0 < Nat.gcd x d := Nat.gcd_pos_of_pos_right _ hd
  obtain ⟨g, hgg⟩ : ∃ g, Nat.gcd x d = g := ⟨_, rfl⟩
  rw [hgg] at hdv hg ⊢
  have HDV := Lib.hid hdv
  obtain ⟨X, hX⟩ : ∃ X, x / g = X := ⟨_, rfl⟩
  obtain ⟨D, hD⟩ : ∃ D, d / g = D := ⟨_, rfl⟩
  rw [hX, hD]
  have hX1 : X ≤ x := by rw [← hX]; exact Nat.div_le_self _ _
  have hD1 : D ≤ d := by rw [← hD]; exact Nat.div_le_self _ _
  have t1 : ((x : Int)).tdiv (g : Int) = (X : Int) := by rw [← hX]; rfl
  have t2 : ((d : Int)).tdiv (g : Int) = (D : Int) := by rw [← hD]; rfl
  have t3 : IntKind.i64.wrap (X : Int) = (X : Int) := IntWalk.i64_in _ (by omega)
  have t4 : IntKind.i64.wrap (D : Int) = (D : Int) := IntWalk.i64_in _ (by omega)
  have hne : (g : Int) ≠ 0 := by omega
  have hne2 : ¬ g = 0 := by omega
  clear hdv hgg hX hD
  go_enter Try.func39, Try.ntmps39
  go_wp2_with (first
    | (go_at_call 50; (with_reducible refine (HDV.out _).mono ?_); rintro e x1 ⟨rfl, f1⟩; replace hF := hF.trans f1 (fun _ _ h => h); replace hB := hB.frm f1 (fun h => h)))
  go_still_tail 7, (by kernel_rfl)
  change wpList _ _ _ _ _ x1.drew
  have hF2 : Frm w x1.drew NoB := hF.drew
  have hB2 : Blk x1.drew w.heap.size 41 #[.int .i64 0, .int .i64 0] := hB
  obtain ⟨w2, hw2⟩ : ∃ w2, w2 = x1.drew := ⟨_, rfl⟩
  rw [← hw2] at hF2 hB2 ⊢
  clear hw2 hF hB
  have z0 := hB2.frozen 0
  have z1 := hB2.frozen 1
  have g0 := hB2.cellIs (i := 0) rfl
  have g1 := hB2.cellIs (i := 1) rfl
  have hB3 := (hB2.put 0 (.int .i64 (X : Int))).put 1 (.int .i64 (D : Int))
  have hF3 := (hF2.put (b := w.heap.size) (fun h => absurd h (Nat.lt_irrefl _)) 0 (.int .i64 (X : Int))).put (b := w.heap.size) (fun h => absurd h (Nat.lt_irrefl _)) 1 (.int .i64 (D : Int))
  have c0 := hB3.cellIs (i := 0) rfl
  have c1 := hB3.cellIs (i := 1) rfl
  go_wp2
  refine bodyPost_ret (v := .agg #[.int .i64 (X : Int), .int .i64 (D : Int)]) (by simp [results, Try.results39, go_sem, c0, c1]) rfl ?_
  exact ⟨rfl, hF3⟩

/-- The rational number in lowest terms, as cells. -/
def ratI (x d : Nat) : Value := .agg #[.int .i64 (x / Nat.gcd x d : Nat), .int .i64 (d / Nat.gcd x d : Nat)]

section
open Go.Lib
theorem maskN (a : Nat) (ha : a < 18446744073709551616) : bits .and .u64 (a : Int) 4294967295 = ((a % 4294967296 : Nat) : Int) := by
  have h := bits_and_u64_nat a 4294967295 ha (by omega)
  rw [show a &&& 4294967295 = a % 4294967296 from Nat.and_two_pow_sub_one_eq_mod a 32] at h
  exact h
theorem divN (a : Nat) : (a : Int) / 4294967296 = ((a / 4294967296 : Nat) : Int) := by omega
theorem mulN (a b : Nat) : (a : Int) * (b : Int) = ((a * b : Nat) : Int) := (Int.natCast_mul a b).symm
theorem addN (a b : Nat) : (a : Int) + (b : Int) = ((a + b : Nat) : Int) := (Int.natCast_add a b).symm
theorem wrapN (a : Nat) (ha : a < 18446744073709551616) : IntKind.u64.wrap (a : Int) = (a : Int) := by rw [IntKind.wrap_u64]; omega
theorem wrapM (a : Nat) : IntKind.u64.wrap (a : Int) = ((a % 18446744073709551616 : Nat) : Int) := by rw [IntKind.wrap_u64]; omega
set_option maxHeartbeats 4000000 in
theorem mul64_t (x y : Nat) (w : World) (hx : x < 18446744073709551616) (hy : y < 18446744073709551616) :
    Calls Try.prog 49 #[.int .u64 x, .int .u64 y] w fun e w' => e = .returned (.tuple #[.int .u64 ((x * y / 18446744073709551616 : Nat) : Int), .int .u64 ((x * y % 18446744073709551616 : Nat) : Int)]) ∧ w = w' := by
  obtain ⟨bd, bt, bw, hhi⟩ := mul64_hi x y hx hy
  have ba := half_mul_le (a := x / 4294967296) (b := y / 4294967296) (by omega) (by omega)
  have bb := half_mul_le (a := x / 4294967296) (b := y % 4294967296) (by omega) (by omega)
  have bc := half_mul_le (a := x % 4294967296) (b := y / 4294967296) (by omega) (by omega)
  have ba' : x / 4294967296 * (y / 4294967296) < 18446744073709551616 := by omega
  have bb' : x / 4294967296 * (y % 4294967296) < 18446744073709551616 := by omega
  have bc' : x % 4294967296 * (y / 4294967296) < 18446744073709551616 := by omega
  have bh1 : x / 4294967296 * (y / 4294967296) + (x / 4294967296 * (y % 4294967296) + x % 4294967296 * (y % 4294967296) / 4294967296) / 4294967296 < 18446744073709551616 := by omega
  have bh : x / 4294967296 * (y / 4294967296) + (x / 4294967296 * (y % 4294967296) + x % 4294967296 * (y % 4294967296) / 4294967296) / 4294967296 + ((x / 4294967296 * (y % 4294967296) + x % 4294967296 * (y % 4294967296) / 4294967296) % 4294967296 + x % 4294967296 * (y / 4294967296)) / 4294967296 < 18446744073709551616 := by omega
  go_enter Try.func49, Try.ntmps49
  go_wp2
  simp only [maskN x hx, maskN y hy, divN, mulN, addN, wrapN _ bd, wrapN _ bb', wrapN _ bt, maskN _ bt, wrapN _ bc', wrapN _ bw, wrapN _ ba', wrapN _ bh1, wrapN _ bh, wrapM (x * y)]
  rw [hhi]
  go_ret2
  exact ⟨rfl, rfl⟩
end
end Go.Proofs.Ythpakpljfgmkfaa
