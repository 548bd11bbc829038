/- PrngBijective returns true, whatever the numbers. -/
import Derived.Test.YtcdadpbnmilgiaaW5
namespace Go.Proofs.Ytcdadpbnmilgiaa
open Go.RowKit PrngPure

theorem wf_u64 {a : Int} (h : (Lit.int .u64 a).wf = true) : 0 ≤ a ∧ a < 18446744073709551616 := by
  have h1 : IntKind.u64.min = 0 := rfl
  have h2 : IntKind.u64.max = 18446744073709551615 := rfl
  simp only [Lit.wf, Bool.and_eq_true, decide_eq_true_eq] at h
  omega
theorem mixI_inj {a b c : Int} (ha : 0 ≤ a) (hb : 0 ≤ b ∧ b < 18446744073709551616) (hc : 0 ≤ c ∧ c < 18446744073709551616) (h : mixI a b = mixI a c) : b = c := by
  obtain ⟨A, rfl⟩ := Int.eq_ofNat_of_zero_le ha
  obtain ⟨B, rfl⟩ := Int.eq_ofNat_of_zero_le hb.1
  obtain ⟨C, rfl⟩ := Int.eq_ofNat_of_zero_le hc.1
  rw [mixI_nat, mixI_nat] at h
  have := mix_inj A B C (by omega) (by omega) (by omega)
  omega
theorem mixI_step {a b : Int} (ha : 0 ≤ a) (hb : 0 ≤ b) : mixI (IntKind.u64.wrap (a + 11400714819323198485)) b = mixI a (IntKind.u64.wrap (b + 1)) := by
  obtain ⟨A, rfl⟩ := Int.eq_ofNat_of_zero_le ha
  obtain ⟨B, rfl⟩ := Int.eq_ofNat_of_zero_le hb
  have e1 : IntKind.u64.wrap ((A : Int) + 11400714819323198485) = (((A + 11400714819323198485) % 18446744073709551616 : Nat) : Int) := by rw [IntKind.wrap_u64]; omega
  have e2 : IntKind.u64.wrap ((B : Int) + 1) = (((B + 1) % 18446744073709551616 : Nat) : Int) := by rw [IntKind.wrap_u64]; omega
  rw [e1, e2, mixI_nat, mixI_nat, mix_step]

theorem prngBijective_walk (a0 a1 a2 : Int) (w0 : (Lit.int .u64 a0).wf = true) (w1 : (Lit.int .u64 a1).wf = true) (w2 : (Lit.int .u64 a2).wf = true) (w : World) :
    Calls Try.prog 5 #[.int .u64 a0, .int .u64 a1, .int .u64 a2] w fun e w' => e = .returned (.bool true) ∧ Frm w w' NoB := by
  have hs : (mixI (IntKind.u64.wrap (a0 + 11400714819323198485)) a1 == mixI a0 (IntKind.u64.wrap (a1 + 1))) = true := beq_iff_eq.2 (mixI_step (wf_u64 w0).1 (wf_u64 w1).1)
  have hd : (a1 == a2) = (mixI a0 a1 == mixI a0 a2) := by
    by_cases h : a1 = a2
    · rw [h]; simp
    · rw [beq_eq_false_iff_ne.2 h, beq_eq_false_iff_ne.2 (fun e => h (mixI_inj (wf_u64 w0).1 (wf_u64 w1) (wf_u64 w2) e))]
  have hd2 : (a1 == a2) = true ∧ (mixI a0 a1 == mixI a0 a2) = true ∨ (a1 == a2) = false ∧ (mixI a0 a1 == mixI a0 a2) = false := by
    cases h : (a1 == a2)
    · exact .inr ⟨rfl, by rw [← hd]; exact h⟩
    · exact .inl ⟨rfl, by rw [← hd]; exact h⟩
  clear hd w0 w1 w2
  rcases hd2 with ⟨h1, h2⟩ | ⟨h1, h2⟩
  all_goals
    go_enter Try.func5, Try.ntmps5
    go_wp2_with fail
    refine (mix_t _ _ _).mono ?_
    rintro e x1 ⟨rfl, f1⟩
    go_wp2_with fail
    refine (mix_t _ _ _).mono ?_
    rintro e x2 ⟨rfl, f2⟩
    go_wp2_with fail
    refine (mix_t _ _ _).mono ?_
    rintro e x3 ⟨rfl, f3⟩
    go_wp2_with fail
    refine (mix_t _ _ _).mono ?_
    rintro e x4 ⟨rfl, f4⟩
    go_wp2_with fail
    refine (awake_t _).mono ?_
    rintro e x5 ⟨rfl, f5⟩
    go_wp2_with fail
    go_ret
    exact ⟨rfl, (((f1.trans f2 (fun _ _ h => h)).trans f3 (fun _ _ h => h)).trans f4 (fun _ _ h => h)).trans f5 (fun _ _ h => h)⟩
end Go.Proofs.Ytcdadpbnmilgiaa
