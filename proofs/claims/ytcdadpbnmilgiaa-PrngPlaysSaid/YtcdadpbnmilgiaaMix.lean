/- The number that Mix is defined to return, over natural numbers below 2^64. -/
namespace Go.Proofs.Ytcdadpbnmilgiaa.PrngPure
def M : Nat := 18446744073709551616
def mx0 (a b : Nat) : Nat := (a + 11400714819323198485 * ((b + 1) % 18446744073709551616) % 18446744073709551616) % 18446744073709551616
def mx1 (x : Nat) : Nat := (x ^^^ x / 1073741824) * 13787848793156543929 % 18446744073709551616
def mx2 (x : Nat) : Nat := (x ^^^ x / 134217728) * 10723151780598845931 % 18446744073709551616
def mx3 (x : Nat) : Nat := x ^^^ x / 2147483648
def mix (a b : Nat) : Nat := mx3 (mx2 (mx1 (mx0 a b)))

theorem xorshift_lt (x k : Nat) (h : x < 18446744073709551616) : (x ^^^ x / k) < 18446744073709551616 := by
  have : (x ^^^ x / k) < 2 ^ 64 := Nat.xor_lt_two_pow (by omega) (Nat.lt_of_le_of_lt (Nat.div_le_self _ _) (by omega))
  omega
theorem mx0_lt (a b : Nat) : mx0 a b < 18446744073709551616 := Nat.mod_lt _ (by omega)
theorem mx1_lt (x : Nat) : mx1 x < 18446744073709551616 := Nat.mod_lt _ (by omega)
theorem mx2_lt (x : Nat) : mx2 x < 18446744073709551616 := Nat.mod_lt _ (by omega)
theorem mix_lt (a b : Nat) : mix a b < 18446744073709551616 := xorshift_lt _ _ (mx2_lt _)

theorem xs_inj (j : Nat) (hj : 0 < j) (x y : Nat) (hx : x < 18446744073709551616) (hy : y < 18446744073709551616) (h : x ^^^ x / 2 ^ j = y ^^^ y / 2 ^ j) : x = y := by
  have e64 : (2 : Nat) ^ 64 = 18446744073709551616 := by decide
  rw [← e64] at hx hy
  have bits : ∀ d i : Nat, 64 ≤ i + d → x.testBit i = y.testBit i := by
    intro d
    induction d using Nat.strongRecOn with
    | _ d ih =>
      intro i hi
      by_cases h64 : 64 ≤ i
      · rw [Nat.testBit_lt_two_pow (Nat.lt_of_lt_of_le hx (Nat.pow_le_pow_right (by omega) h64)), Nat.testBit_lt_two_pow (Nat.lt_of_lt_of_le hy (Nat.pow_le_pow_right (by omega) h64))]
      · have hd : d - 1 < d := by omega
        have h1 := ih (d - 1) hd (i + j) (by omega)
        have h2 : (x ^^^ x / 2 ^ j).testBit i = (y ^^^ y / 2 ^ j).testBit i := by rw [h]
        rw [Nat.testBit_xor, Nat.testBit_xor, Nat.testBit_div_two_pow, Nat.testBit_div_two_pow, h1] at h2
        revert h2
        generalize x.testBit i = p
        generalize y.testBit i = q
        generalize y.testBit (i + j) = r
        cases p <;> cases q <;> cases r <;> simp
  exact Nat.eq_of_testBit_eq (fun i => bits 64 i (by omega))

theorem mul_inj (c d : Nat) (hcd : c * d % 18446744073709551616 = 1) (x y : Nat) (hx : x < 18446744073709551616) (hy : y < 18446744073709551616)
    (h : x * c % 18446744073709551616 = y * c % 18446744073709551616) : x = y := by
  have e : ∀ z, z < 18446744073709551616 → z * c % 18446744073709551616 * d % 18446744073709551616 = z := by
    intro z hz
    rw [Nat.mod_mul_mod, Nat.mul_assoc, Nat.mul_mod, hcd, Nat.mul_one, Nat.mod_mod]
    exact Nat.mod_eq_of_lt hz
  rw [← e x hx, h, e y hy]


theorem two31 : (2 : Nat) ^ 31 = 2147483648 := by decide
theorem mx3_inj (x y : Nat) (hx : x < 18446744073709551616) (hy : y < 18446744073709551616) (h : mx3 x = mx3 y) : x = y := by
  unfold mx3 at h
  rw [← two31] at h
  exact xs_inj 31 (by decide) x y hx hy h
theorem inv2 : 10723151780598845931 * 3573116690164977347 % 18446744073709551616 = 1 := by decide
theorem inv1 : 13787848793156543929 * 10871156337175269513 % 18446744073709551616 = 1 := by decide
theorem inv0 : 11400714819323198485 * 17428512612931826493 % 18446744073709551616 = 1 := by decide
theorem two27 : (2 : Nat) ^ 27 = 134217728 := by decide
theorem two30 : (2 : Nat) ^ 30 = 1073741824 := by decide
theorem mx2_inj (x y : Nat) (hx : x < 18446744073709551616) (hy : y < 18446744073709551616) (h : mx2 x = mx2 y) : x = y := by
  unfold mx2 at h
  have h1 := mul_inj 10723151780598845931 3573116690164977347 inv2 (x ^^^ x / 134217728) (y ^^^ y / 134217728) (xorshift_lt x 134217728 hx) (xorshift_lt y 134217728 hy) h
  rw [← two27] at h1
  exact xs_inj 27 (by decide) x y hx hy h1
theorem mx1_inj (x y : Nat) (hx : x < 18446744073709551616) (hy : y < 18446744073709551616) (h : mx1 x = mx1 y) : x = y := by
  unfold mx1 at h
  have h1 := mul_inj 13787848793156543929 10871156337175269513 inv1 (x ^^^ x / 1073741824) (y ^^^ y / 1073741824) (xorshift_lt x 1073741824 hx) (xorshift_lt y 1073741824 hy) h
  rw [← two30] at h1
  exact xs_inj 30 (by decide) x y hx hy h1
theorem add_inj (a x y : Nat) (hx : x < 18446744073709551616) (hy : y < 18446744073709551616) (h : (a + x) % 18446744073709551616 = (a + y) % 18446744073709551616) : x = y := by omega
theorem succ_inj (b c : Nat) (hb : b < 18446744073709551616) (hc : c < 18446744073709551616) (h2 : (b + 1) % 18446744073709551616 = (c + 1) % 18446744073709551616) : b = c := by omega
theorem mx0_inj (a b c : Nat) (hb : b < 18446744073709551616) (hc : c < 18446744073709551616) (h : mx0 a b = mx0 a c) : b = c := by
  unfold mx0 at h
  have h1 := add_inj _ _ _ (Nat.mod_lt _ (by decide)) (Nat.mod_lt _ (by decide)) h
  rw [Nat.mul_comm 11400714819323198485, Nat.mul_comm 11400714819323198485] at h1
  have h2 := mul_inj 11400714819323198485 17428512612931826493 inv0 _ _ (Nat.mod_lt _ (by decide)) (Nat.mod_lt _ (by decide)) h1
  exact succ_inj b c hb hc h2
/-- For one a, different b have different mixes. -/
theorem mix_inj (a b c : Nat) (hb : b < 18446744073709551616) (hc : c < 18446744073709551616) (h : mix a b = mix a c) : b = c :=
  mx0_inj a b c hb hc (mx1_inj _ _ (mx0_lt _ _) (mx0_lt _ _) (mx2_inj _ _ (mx1_lt _) (mx1_lt _) (mx3_inj _ _ (mx2_lt _) (mx2_lt _) h)))
theorem mix_step (a b : Nat) : mix ((a + 11400714819323198485) % 18446744073709551616) b = mix a ((b + 1) % 18446744073709551616) := by
  have : mx0 ((a + 11400714819323198485) % 18446744073709551616) b = mx0 a ((b + 1) % 18446744073709551616) := by unfold mx0; omega
  unfold mix; rw [this]
end Go.Proofs.Ytcdadpbnmilgiaa.PrngPure
