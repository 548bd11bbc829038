/- StabilityEnds, walked: all cases. -/
import Derived.Test.YthpakpljfgmkfaaW42
namespace Go.Proofs.Ythpakpljfgmkfaa
open Go.RowKit

theorem stabilityEnds_walk (A : Option Addr) (n c B : Nat) (xs : List Int) (a b : Int) (w : World) (hX : LX w A n B xs) (hc : n ≤ c) (ha : 0 ≤ a ∧ a ≤ 255) (hb : 0 ≤ b ∧ b ≤ 255) :
    Calls Try.prog 4 #[.slice A n c, .int .u8 a, .int .u8 b] w fun e w' => e = .returned (.bool true) ∧ Frm w w' NoB := by
  obtain ⟨N, hN⟩ : ∃ N, N = min n 1000 := ⟨_, rfl⟩
  have hxr : ∀ j, j < N → -2147483648 ≤ xs.getD j 0 ∧ xs.getD j 0 ≤ 2147483647 := fun j hj => by
    obtain ⟨_, _, _, _, h⟩ := hX.pos (by omega)
    exact (h j (by omega)).2
  have hck := lnL_chk (a := 0) (b := 0) (by omega : N ≤ 1000) hxr (by omega) (by omega)
  have hlen := lnL_len xs 0 0 N
  obtain ⟨L, hL⟩ : ∃ L, lnL xs 0 0 N = L := ⟨_, rfl⟩
  rw [hL] at hck hlen
  obtain ⟨p, hp⟩ : ∃ p : Nat, (p : Int) = a + 1 := ⟨(a + 1).toNat, by omega⟩
  obtain ⟨q, hq⟩ : ∃ q : Nat, (q : Int) = b + 1 := ⟨(b + 1).toNat, by omega⟩
  have hp0 : 0 < p := by omega
  have hq0 : 0 < q := by omega
  have hr0 : 0 < p * q := Nat.mul_pos hp0 hq0
  have hrb : p * q ≤ 256 * 256 := Nat.mul_le_mul (by omega) (by omega)
  have ta : IntKind.i64.wrap a = a := IntWalk.i64_in _ (by omega)
  have tb : IntKind.i64.wrap b = b := IntWalk.i64_in _ (by omega)
  have tp : IntKind.i64.wrap (a + 1) = (p : Int) := by rw [hp]; exact IntWalk.i64_in _ (by omega)
  have tq : IntKind.i64.wrap (b + 1) = (q : Int) := by rw [hq]; exact IntWalk.i64_in _ (by omega)
  have tr : IntKind.i64.wrap ((p : Int) * (q : Int)) = ((p * q : Nat) : Int) := by rw [← Int.natCast_mul]; exact IntWalk.i64_in _ (by omega)
  have hck2 := dL_chk hck hp0
  rw [hlen] at hck2
  have e1 : dN (p * q) N = dN q (dN p N) := (dN_dN hp0 hq0 N).symm
  have e2 : dL L (p * q) N = dL (dL L p N) q (dN p N) := (dL_dL L hp0 hq0 N).symm
  have hKp : 0 < N → 0 < dN p N := fun h => dN_pos hp0 h
  by_cases h2 : N < 2
  · exact ends_short (p := p) (q := q) (r := p * q) (K := dN p N) (M := dN q (dN p N)) (La := dL L p N) (Lb := dL (dL L p N) q (dN p N)) hN hL hX hc hlen hck hck2 ta tb tp tq tr hp0 (by omega) hq0 (by omega) hr0 (by omega) rfl rfl rfl rfl e1 e2 hKp (by omega) h2
  · exact ends_long (p := p) (q := q) (r := p * q) (K := dN p N) (M := dN q (dN p N)) (La := dL L p N) (Lb := dL (dL L p N) q (dN p N)) hN hL hX hc hlen hck hck2 ta tb tp tq tr hp0 (by omega) hq0 (by omega) hr0 (by omega) rfl rfl rfl rfl e1 e2 hKp (by omega) (by omega)
end Go.Proofs.Ythpakpljfgmkfaa
