/- What Mix of the program and of the reference do, and the tests of a number's range. -/
import Derived.Test.YtchmaecakjeceaaBase
import Derived.Test.YtchmaecakjeceaaMix
namespace Go.Proofs.Ytchmaecakjeceaa
open Go.RowKit PrngPure

def m0 (a b : Int) : Int := IntKind.u64.wrap (a + IntKind.u64.wrap (11400714819323198485 * IntKind.u64.wrap (b + 1)))
def m1 (x : Int) : Int := IntKind.u64.wrap (bits .xor .u64 x (x / 1073741824) * 13787848793156543929)
def m2 (x : Int) : Int := IntKind.u64.wrap (bits .xor .u64 x (x / 134217728) * 10723151780598845931)
def m3 (x : Int) : Int := bits .xor .u64 x (x / 2147483648)
def mixI (a b : Int) : Int := m3 (m2 (m1 (m0 a b)))
theorem mixI_nonneg (a b : Int) : 0 ≤ mixI a b := by
  unfold mixI m3
  exact wrap_u64_nonneg _

theorem rmix_t (a b : Int) (w : World) :
    Calls Try.prog 30 #[.int .u64 a, .int .u64 b] w fun e w' => e = .returned (.int .u64 (mixI a b)) ∧ w = w' := by
  go_enter Try.func30, Try.ntmps30
  go_wp2
  go_ret
  exact ⟨rfl, rfl⟩

theorem mix_t (a b : Int) (w : World) :
    Calls Try.prog 25 #[.int .u64 a, .int .u64 b] w fun e w' => e = .returned (.int .u64 (mixI a b)) ∧ Frm w w' NoB := by
  have i0 : ∀ w, (Instr.index 54 (.agg #[.int .i64 30, .int .u64 13787848793156543929, .int .i64 27, .int .u64 10723151780598845931]) (.int .i64 0)).run Try.prog w = .ok (.agg #[.int .i64 30, .int .u64 13787848793156543929]) w := fun _ => by kernel_rfl
  have i1 : ∀ w, (Instr.index 54 (.agg #[.int .i64 30, .int .u64 13787848793156543929, .int .i64 27, .int .u64 10723151780598845931]) (.int .i64 1)).run Try.prog w = .ok (.agg #[.int .i64 27, .int .u64 10723151780598845931]) w := fun _ => by kernel_rfl
  go_enter Try.func25, Try.ntmps25
  go_wp2
  refine wp_loop_rounds 3 ?_
  rw [rounds_succ]
  go_wp2
  go_quiet (fail)
  go_wp2
  rw [rounds_succ]
  go_wp2
  go_quiet (fail)
  go_wp2
  rw [rounds_succ]
  go_wp2
  go_ret
  exact ⟨rfl, by repeat' (first | exact Frm.refl _ _ | refine Frm.drewN ?_ _ | refine Frm.drew ?_ | refine Frm.alloc ?_ _)⟩

/-- Is x from 0 to hi? -/
def okr (hi x : Int) : Bool := decide (0 ≤ x) && decide (x ≤ hi)
theorem okr_iff {hi x : Int} : okr hi x = true ↔ 0 ≤ x ∧ x ≤ hi := by simp [okr]
theorem okr_not {hi x : Int} : okr hi x = false ↔ x < 0 ∨ hi < x := by
  rw [← Bool.not_eq_true, okr_iff]; omega

theorem rright_t (x hi : Int) (w : World) :
    Calls Try.prog 27 #[.int .i64 x, .int .i64 hi] w fun e w' => e = .returned (.bool (okr hi x)) ∧ w = w' := by
  by_cases h : 0 ≤ x
  · go_enter Try.func27, Try.ntmps27
    go_wp2
    go_ret
    exact ⟨by simp [okr, h], rfl⟩
  · go_enter Try.func27, Try.ntmps27
    go_wp2
    go_ret
    exact ⟨by simp [okr]; omega, rfl⟩
theorem in_t (hi a b : Int) (w : World) :
    Calls Try.prog 26 #[.int .i64 hi, .agg #[.int .i64 a, .int .i64 b]] w fun e w' => e = .returned (.bool (okr hi a && okr hi b)) ∧ Frm w w' NoB := by
  have i0 : ∀ w, (Instr.index 22 (.agg #[.int .i64 a, .int .i64 b]) (.int .i64 0)).run Try.prog w = .ok (.int .i64 a) w := fun _ => by kernel_rfl
  have i1 : ∀ w, (Instr.index 22 (.agg #[.int .i64 a, .int .i64 b]) (.int .i64 1)).run Try.prog w = .ok (.int .i64 b) w := fun _ => by kernel_rfl
  have key : ∀ r : Bool, r = (okr hi a && okr hi b) → Calls Try.prog 26 #[.int .i64 hi, .agg #[.int .i64 a, .int .i64 b]] w fun e w' => e = .returned (.bool r) ∧ Frm w w' NoB := by
    intro r hr
    have Hr := Lib.hid hr
    clear hr
    by_cases h1 : a < 0 ∨ hi < a
    · have hf : r = false := by rw [Hr.out, okr_not.2 h1]; rfl
      subst hf
      rcases h1 with h1 | h1
      · go_enter Try.func26, Try.ntmps26
        go_wp2
        refine wp_loop_rounds 3 ?_
        rw [rounds_succ]
        go_wp2
        go_ret
        exact ⟨rfl, (Frm.refl _ _).alloc _⟩
      · by_cases h0 : a < 0
        all_goals
          go_enter Try.func26, Try.ntmps26
          go_wp2
          refine wp_loop_rounds 3 ?_
          rw [rounds_succ]
          go_wp2
          go_ret
          exact ⟨rfl, (Frm.refl _ _).alloc _⟩
    · have q1 : 0 ≤ a := by omega
      have q2 : a ≤ hi := by omega
      by_cases h2 : b < 0 ∨ hi < b
      · have hf : r = false := by rw [Hr.out, okr_not.2 h2]; simp
        subst hf
        rcases h2 with h2 | h2
        · go_enter Try.func26, Try.ntmps26
          go_wp2
          refine wp_loop_rounds 3 ?_
          rw [rounds_succ]
          go_wp2
          rw [rounds_succ]
          go_wp2
          go_ret
          exact ⟨rfl, (Frm.refl _ _).alloc _⟩
        · go_enter Try.func26, Try.ntmps26
          go_wp2
          refine wp_loop_rounds 3 ?_
          rw [rounds_succ]
          go_wp2
          rw [rounds_succ]
          go_wp2
          go_ret
          exact ⟨rfl, (Frm.refl _ _).alloc _⟩
      · have hf : r = true := by rw [Hr.out, okr_iff.2 (by omega), okr_iff.2 (by omega), Bool.and_self]
        subst hf
        have q3 : 0 ≤ b := by omega
        have q4 : b ≤ hi := by omega
        go_enter Try.func26, Try.ntmps26
        go_wp2
        refine wp_loop_rounds 3 ?_
        rw [rounds_succ]
        go_wp2
        rw [rounds_succ]
        go_wp2
        rw [rounds_succ]
        go_wp2
        go_ret
        exact ⟨rfl, (Frm.refl _ _).alloc _⟩
  exact key _ rfl
end Go.Proofs.Ytchmaecakjeceaa
