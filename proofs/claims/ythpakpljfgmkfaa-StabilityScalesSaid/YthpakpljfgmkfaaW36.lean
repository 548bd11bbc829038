/- StabilityScales: the plain law. -/
import Derived.Test.YthpakpljfgmkfaaW33
import Derived.Test.YthpakpljfgmkfaaW23
namespace Go.Proofs.Ythpakpljfgmkfaa
open Go.RowKit

section
variable {xs ys : List Int} {k : Int} (h : ∀ j, ys.getD j 0 = xs.getD j 0 * k)
include h
theorem sc_s2 (i q : Nat) : s2 ys i q = s2 xs i q * k := by
  unfold s2
  rw [h, h, h, Int.add_mul, Int.sub_mul, Int.mul_assoc]
theorem sc_a2 (q i : Nat) : a2 ys q i = a2 xs q i * k.natAbs := by
  unfold a2
  rw [sc_s2 h, Int.natAbs_mul]
theorem sc_md0 (q j : Nat) : ∀ r, md0 ys q j r = md0 xs q j r * k
  | 0 => by unfold md0; rw [Int.zero_mul]
  | r + 1 => by
    unfold md0
    rw [sc_md0 q j r, sc_s2 h, Int.add_mul]
theorem sc_mdA (q j : Nat) : mdA ys q j = mdA xs q j * k.natAbs := by
  unfold mdA
  rw [sc_md0 h, Int.natAbs_mul]
end
theorem sc_sqs (f g : Nat → Nat) (K : Nat) (h : ∀ i, g i = f i * K) : ∀ m, sqs g m = K * K * sqs f m
  | 0 => rfl
  | m + 1 => by
    unfold sqs
    rw [sc_sqs f g K h m, h m, Nat.mul_add]
    congr 1
    rw [Nat.mul_mul_mul_comm, Nat.mul_comm]
theorem sqs_le (f : Nat → Nat) (b : Nat) : ∀ m, (∀ i, i < m → f i ≤ b) → sqs f m ≤ m * (b * b)
  | 0, _ => Nat.zero_le _
  | m + 1, h => by
    unfold sqs
    have h1 := Nat.mul_le_mul (h m (by omega)) (h m (by omega))
    have h2 := sqs_le f b m (fun i hi => h i (by omega))
    rw [Nat.add_mul, Nat.one_mul]
    omega
/-- A quotient whose numerator grows by a factor. -/
theorem rat_scale (S D K2 : Nat) (hD : 0 < D) : ratI (K2 * S) D = .agg #[.int .i64 ((S / Nat.gcd S D * (K2 / Nat.gcd K2 (D / Nat.gcd S D)) : Nat) : Int), .int .i64 ((D / Nat.gcd S D / Nat.gcd K2 (D / Nat.gcd S D) : Nat) : Int)] := by
  have hg : 0 < Nat.gcd S D := Nat.gcd_pos_of_pos_right _ hD
  obtain ⟨X, hX⟩ := Nat.gcd_dvd_left S D
  obtain ⟨Y, hY⟩ := Nat.gcd_dvd_right S D
  have hco : Nat.gcd (S / Nat.gcd S D) (D / Nat.gcd S D) = 1 := by rw [Nat.gcd_div (Nat.gcd_dvd_left _ _) (Nat.gcd_dvd_right _ _), Nat.div_self hg]
  obtain ⟨g, hgg⟩ : ∃ g, g = Nat.gcd S D := ⟨_, rfl⟩
  rw [← hgg] at hg hX hY hco ⊢
  have eX : S / g = X := by rw [hX, Nat.mul_div_cancel_left _ hg]
  have eY : D / g = Y := by rw [hY, Nat.mul_div_cancel_left _ hg]
  rw [eX, eY] at hco ⊢
  have hY0 : 0 < Y := by
    rcases Nat.eq_zero_or_pos Y with e | e
    · rw [e, Nat.mul_zero] at hY; omega
    · exact e
  have e1 : Nat.gcd (K2 * S) D = g * Nat.gcd K2 Y := by
    have e2 : K2 * S = g * (K2 * X) := by rw [hX, Nat.mul_left_comm]
    rw [e2, hY, Nat.gcd_mul_left]
    congr 1
    exact Nat.Coprime.gcd_mul_right_cancel K2 hco
  have hx0 : 0 < Nat.gcd K2 Y := Nat.gcd_pos_of_pos_right _ hY0
  unfold ratI
  rw [e1]
  have e3 : K2 * S / (g * Nat.gcd K2 Y) = X * (K2 / Nat.gcd K2 Y) := by
    rw [hX, Nat.mul_left_comm, Nat.mul_div_mul_left _ _ hg, Nat.mul_comm K2 X, Nat.mul_div_assoc _ (Nat.gcd_dvd_left K2 Y)]
  have e4 : D / (g * Nat.gcd K2 Y) = Y / Nat.gcd K2 Y := by
    rw [hY, Nat.mul_div_mul_left _ _ hg]
  rw [e3, e4]
/-- The numbers of a list and of its multiple: both 0, or as equal asks. -/
def Scl (K2 : Nat) (R R' : Value) : Prop :=
  (R = .agg #[.int .i64 0, .int .i64 0] ∧ R' = .agg #[.int .i64 0, .int .i64 0]) ∨
  ∃ X Y : Nat, 0 < Y ∧ Y ≤ 9223372036854775807 ∧ X * (K2 / Nat.gcd K2 Y) ≤ 9223372036854775807 ∧ R = .agg #[.int .i64 (X : Int), .int .i64 (Y : Int)] ∧ R' = .agg #[.int .i64 ((X * (K2 / Nat.gcd K2 Y) : Nat) : Int), .int .i64 ((Y / Nat.gcd K2 Y : Nat) : Int)]
theorem scl_rat (S D K2 : Nat) (hD : 0 < D) (hD2 : D ≤ 9223372036854775807) (hS : K2 * S ≤ 9223372036854775807) : Scl K2 (ratI S D) (ratI (K2 * S) D) := by
  have hg : 0 < Nat.gcd S D := Nat.gcd_pos_of_pos_right _ hD
  refine .inr ⟨S / Nat.gcd S D, D / Nat.gcd S D, Nat.div_pos (Nat.le_of_dvd hD (Nat.gcd_dvd_right _ _)) hg, Nat.le_trans (Nat.div_le_self _ _) hD2, ?_, rfl, rat_scale S D K2 hD⟩
  refine Nat.le_trans ?_ hS
  rw [Nat.mul_comm K2 S]
  exact Nat.mul_le_mul (Nat.div_le_self _ _) (Nat.div_le_self _ _)
section
variable {xs ys : List Int} {k : Int} (h : ∀ j, ys.getD j 0 = xs.getD j 0 * k) (hl : ys.length = xs.length) (hn : xs.length ≤ 60) (hb : ∀ j, j < xs.length → -32768 ≤ xs.getD j 0 ∧ xs.getD j 0 ≤ 32767) (hk : -128 ≤ k ∧ k ≤ 127)
include h hl hn hb hk
theorem sc_y (j : Nat) (hj : j < xs.length) : -4194304 ≤ ys.getD j 0 ∧ ys.getD j 0 ≤ 4194304 := by
  have _ := hl
  have _ := hn
  have h1 := hb j hj
  have h2 : (xs.getD j 0 * k).natAbs = (xs.getD j 0).natAbs * k.natAbs := Int.natAbs_mul _ _
  have h3 : (xs.getD j 0).natAbs * k.natAbs ≤ 32768 * 128 := Nat.mul_le_mul (by omega) (by omega)
  rw [h]
  omega
theorem sc_chk : chk xs = 0 ∧ chk ys = 0 :=
  ⟨chk_ok (by omega) (fun j hj => by have := hb j hj; omega), chk_ok (by omega) (fun j hj => by have := sc_y h hl hn hb hk j (by omega); omega)⟩
theorem sc_s2b (i q : Nat) (hi : i + 2 * q < xs.length) : -16777216 ≤ s2 ys i q ∧ s2 ys i q ≤ 16777216 := by
  have h1 := sc_y h hl hn hb hk (i + 2 * q) hi
  have h2 := sc_y h hl hn hb hk (i + q) (by omega)
  have h3 := sc_y h hl hn hb hk i (by omega)
  unfold s2
  omega
theorem sc_md0b (j q : Nat) (hj : j + 3 * q ≤ xs.length) : ∀ r, r ≤ q → -(16777216 * (r : Int)) ≤ md0 ys q j r ∧ md0 ys q j r ≤ 16777216 * (r : Int)
  | 0, _ => by unfold md0; omega
  | r + 1, hr => by
    have ih := sc_md0b j q hj r (by omega)
    have := sc_s2b h hl hn hb hk (j + r) q (by omega)
    unfold md0
    omega
theorem sc_al (d : Int) : alE ys d = alE xs d ∧ Scl (k.natAbs * k.natAbs) (alR xs d) (alR ys d) := by
  obtain ⟨c1, c2⟩ := sc_chk h hl hn hb hk
  by_cases h1 : d < 1 ∨ (xs.length : Int) < d ∨ (xs.length : Int) ≤ 2 * d
  · have e1 : alE xs d = 3 := by unfold alE; rw [if_neg (not_not_intro c1), if_pos h1]
    have e2 : alE ys d = 3 := by unfold alE; rw [if_neg (not_not_intro c2), hl, if_pos h1]
    refine ⟨by rw [e1, e2], .inl ⟨?_, ?_⟩⟩
    · unfold alR; rw [e1, if_neg (by decide)]
    · unfold alR; rw [e2, if_neg (by decide)]
  · obtain ⟨q, rfl⟩ : ∃ q : Nat, d = (q : Int) := ⟨d.toNat, by omega⟩
    have e := sc_sqs (a2 xs q) (a2 ys q) k.natAbs (fun i => sc_a2 h q i) (xs.length - 2 * q)
    have hle := sqs_le (a2 ys q) 16777216 (xs.length - 2 * q) (fun i hi => by have := sc_s2b h hl hn hb hk i q (by omega); unfold a2; omega)
    have hy : sqs (a2 ys q) (xs.length - 2 * q) ≤ 9223372036854775807 := by omega
    have hle2 := sqs_le (a2 xs q) 131072 (xs.length - 2 * q) (fun i hi => by
      have h1 := hb (i + 2 * q) (by omega)
      have h2 := hb (i + q) (by omega)
      have h3 := hb i (by omega)
      unfold a2 s2
      omega)
    have hx : sqs (a2 xs q) (xs.length - 2 * q) ≤ 9223372036854775807 := by omega
    have e1 : alE xs (q : Int) = 0 := by unfold alE; rw [if_neg (not_not_intro c1), if_neg h1, Int.toNat_natCast, if_pos hx]
    have e2 : alE ys (q : Int) = 0 := by unfold alE; rw [if_neg (not_not_intro c2), hl, if_neg h1, Int.toNat_natCast, if_pos hy]
    refine ⟨by rw [e1, e2], ?_⟩
    unfold alR
    rw [e1, e2, if_pos rfl, if_pos rfl, hl, Int.toNat_natCast, e]
    exact scl_rat _ _ _ (by omega) (by omega) (by rw [← e]; exact hy)
theorem sc_mo (d : Int) : moE ys d = moE xs d ∧ Scl (k.natAbs * k.natAbs) (moR xs d) (moR ys d) := by
  obtain ⟨c1, c2⟩ := sc_chk h hl hn hb hk
  by_cases h1 : d < 1 ∨ (xs.length : Int) < d ∨ (xs.length : Int) < 3 * d
  · have e1 : moE xs d = 3 := by unfold moE; rw [if_neg (not_not_intro c1), if_pos h1]
    have e2 : moE ys d = 3 := by unfold moE; rw [if_neg (not_not_intro c2), hl, if_pos h1]
    refine ⟨by rw [e1, e2], .inl ⟨?_, ?_⟩⟩
    · unfold moR; rw [e1, if_neg (by decide)]
    · unfold moR; rw [e2, if_neg (by decide)]
  · obtain ⟨q, rfl⟩ : ∃ q : Nat, d = (q : Int) := ⟨d.toNat, by omega⟩
    obtain ⟨m, hm⟩ : ∃ m, m = xs.length + 1 - 3 * q := ⟨_, rfl⟩
    have e := sc_sqs (mdA xs q) (mdA ys q) k.natAbs (fun i => sc_mdA h q i) m
    have hle := sqs_le (mdA ys q) 335544320 m (fun i hi => by have := sc_md0b h hl hn hb hk i q (by omega) q (Nat.le_refl _); unfold mdA; omega)
    have hy : sqs (mdA ys q) m ≤ 9223372036854775807 := by omega
    have ho : okl xs xs.length := (chk_zero c1).2
    have hx1 : ∀ k : Int, True := fun _ => trivial
    have hle2 := sqs_le (mdA xs q) 2621440 m (fun i hi => by
      have hs : ∀ r, r ≤ q → -(131072 * (r : Int)) ≤ md0 xs q i r ∧ md0 xs q i r ≤ 131072 * (r : Int) := by
        intro r
        induction r with
        | zero => intro _; unfold md0; omega
        | succ r ih =>
          intro hr
          have h0 := ih (by omega)
          have h1 := hb (i + r + 2 * q) (by omega)
          have h2 := hb (i + r + q) (by omega)
          have h3 := hb (i + r) (by omega)
          unfold md0 s2
          omega
      have := hs q (Nat.le_refl _)
      unfold mdA
      omega)
    have hx : sqs (mdA xs q) m ≤ 9223372036854775807 := by omega
    have e1 : moE xs (q : Int) = 0 := by unfold moE; rw [if_neg (not_not_intro c1), if_neg h1, Int.toNat_natCast, ← hm, if_pos hx]
    have e2 : moE ys (q : Int) = 0 := by unfold moE; rw [if_neg (not_not_intro c2), hl, if_neg h1, Int.toNat_natCast, ← hm, if_pos hy]
    refine ⟨by rw [e1, e2], ?_⟩
    unfold moR
    rw [e1, e2, if_pos rfl, if_pos rfl, hl, Int.toNat_natCast, ← hm, e]
    have p1 : 0 < 2 * q * q * m := Nat.mul_pos (Nat.mul_pos (show 0 < 2 * q by omega) (show 0 < q by omega)) (show 0 < m by omega)
    have p2 : 2 * q * q * m ≤ 40 * 20 * 60 := Nat.mul_le_mul (Nat.mul_le_mul (by omega) (by omega)) (by omega)
    exact scl_rat _ _ _ p1 (by omega) (by rw [← e]; exact hy)
end
theorem mn_pos {a b K : Int} (hK : 0 ≤ K) : (if a * K < b * K then a * K else b * K) = (if a < b then a else b) * K := by
  by_cases h : a < b
  · have := Int.mul_le_mul_of_nonneg_right (Int.le_of_lt h) hK
    rw [if_pos h]
    split <;> omega
  · have := Int.mul_le_mul_of_nonneg_right (Int.not_lt.1 h) hK
    rw [if_neg h]
    split <;> omega
theorem mn_neg {a b K : Int} (hK : K ≤ 0) : (if a * K < b * K then a * K else b * K) = (if b < a then a else b) * K := by
  by_cases h : b < a
  · have := Int.mul_le_mul_of_nonpos_right (Int.le_of_lt h) hK
    rw [if_pos h]
    split <;> omega
  · have := Int.mul_le_mul_of_nonpos_right (Int.not_lt.1 h) hK
    rw [if_neg h]
    split <;> omega
theorem mx_neg {a b K : Int} (hK : K ≤ 0) : (if b * K < a * K then a * K else b * K) = (if a < b then a else b) * K := by
  by_cases h : a < b
  · have := Int.mul_le_mul_of_nonpos_right (Int.le_of_lt h) hK
    rw [if_pos h]
    split <;> omega
  · have := Int.mul_le_mul_of_nonpos_right (Int.not_lt.1 h) hK
    rw [if_neg h]
    split <;> omega
theorem mx_pos {a b K : Int} (hK : 0 ≤ K) : (if b * K < a * K then a * K else b * K) = (if b < a then a else b) * K := by
  by_cases h : b < a
  · have := Int.mul_le_mul_of_nonneg_right (Int.le_of_lt h) hK
    rw [if_pos h]
    split <;> omega
  · have := Int.mul_le_mul_of_nonneg_right (Int.not_lt.1 h) hK
    rw [if_neg h]
    split <;> omega
section
variable {xs ys : List Int} {k : Int} (h : ∀ j, ys.getD j 0 = xs.getD j 0 * k)
include h
theorem sc_mn_pos (hk : 0 ≤ k) (i : Nat) : ∀ r, mnI ys i r = mnI xs i r * k ∧ mxI ys i r = mxI xs i r * k
  | 0 => ⟨h i, h i⟩
  | r + 1 => by
    obtain ⟨a, b⟩ := sc_mn_pos hk i r
    unfold mnI mxI
    rw [a, b, h, mn_pos hk, mx_pos hk]
    exact ⟨rfl, rfl⟩
theorem sc_mn_neg (hk : k ≤ 0) (i : Nat) : ∀ r, mnI ys i r = mxI xs i r * k ∧ mxI ys i r = mnI xs i r * k
  | 0 => ⟨h i, h i⟩
  | r + 1 => by
    obtain ⟨a, b⟩ := sc_mn_neg hk i r
    unfold mnI mxI
    rw [a, b, h, mn_neg hk, mx_neg hk]
    exact ⟨rfl, rfl⟩
theorem sc_spread (i r : Nat) : mxI ys i r - mnI ys i r = (mxI xs i r - mnI xs i r) * (k.natAbs : Int) := by
  by_cases hk : 0 ≤ k
  · obtain ⟨a, b⟩ := sc_mn_pos h hk i r
    rw [a, b, ← Int.sub_mul, show ((k.natAbs : Nat) : Int) = k by omega]
  · obtain ⟨a, b⟩ := sc_mn_neg h (by omega) i r
    rw [a, b, ← Int.sub_mul, show ((k.natAbs : Nat) : Int) = -k by omega, Int.mul_neg, ← Int.neg_mul, Int.neg_sub]
theorem sc_rng (q : Nat) : ∀ i, rngF ys q i = rngF xs q i * (k.natAbs : Int)
  | 0 => by unfold rngF; rw [Int.zero_mul]
  | i + 1 => by
    unfold rngF
    rw [sc_rng q i, sc_spread h, mx_pos (Int.natCast_nonneg _)]
end
section
variable {xs ys : List Int} {k : Int} (h : ∀ j, ys.getD j 0 = xs.getD j 0 * k) (hl : ys.length = xs.length) (hn : xs.length ≤ 60) (hb : ∀ j, j < xs.length → -32768 ≤ xs.getD j 0 ∧ xs.getD j 0 ≤ 32767) (hk : -128 ≤ k ∧ k ≤ 127)
include h hl hn hb hk
theorem sc_range (d : Int) : rgE ys d = rgE xs d ∧ rgV ys d = rgV xs d * (k.natAbs : Int) ∧ -9223372036854775808 ≤ rgV ys d ∧ rgV ys d ≤ 9223372036854775807 := by
  obtain ⟨c1, c2⟩ := sc_chk h hl hn hb hk
  have e : rgE ys d = rgE xs d := by unfold rgE; rw [c1, c2, hl]
  refine ⟨e, ?_⟩
  unfold rgV
  rw [e]
  by_cases h0 : rgE xs d = 0
  · rw [if_pos h0, if_pos h0, hl]
    have hd : 0 ≤ d ∧ d ≤ (xs.length : Int) := by
      unfold rgE at h0
      rw [if_neg (not_not_intro c1)] at h0
      by_cases h1 : d < 1 ∨ (xs.length : Int) - 1 < d
      · rw [if_pos h1] at h0; exact absurd h0 (by decide)
      · omega
    have hB := rng_bounds (q := d.toNat) (chk_zero c2).2 (xs.length - d.toNat) (by omega)
    exact ⟨sc_rng h _ _, by omega, by omega⟩
  · rw [if_neg h0, if_neg h0, Int.zero_mul]
    exact ⟨rfl, by decide, by decide⟩
end
end Go.Proofs.Ythpakpljfgmkfaa
