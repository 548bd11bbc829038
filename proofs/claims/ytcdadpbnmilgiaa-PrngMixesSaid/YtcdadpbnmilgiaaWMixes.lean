/- PrngMixes and PrngBijective return true, whatever the numbers. -/
import Derived.Test.YtcdadpbnmilgiaaW5
namespace Go.Proofs.Ytcdadpbnmilgiaa
open Go.RowKit PrngPure

theorem prngMixes_walk (a0 a1 : Int) (_w0 : (Lit.int .u64 a0).wf = true) (_w1 : (Lit.int .u64 a1).wf = true) (w : World) :
    Calls Try.prog 3 #[.int .u64 a0, .int .u64 a1] w fun e w' => e = .returned (.bool true) ∧ Frm w w' NoB := by
  go_enter Try.func3, Try.ntmps3
  go_wp2_with (first
    | (go_at_call 11; refine (mix_t _ _ _).mono ?_; rintro e w1 ⟨rfl, f1⟩)
    | (go_at_call 12; refine (rmix_t _ _ _).mono ?_; rintro e w2 ⟨rfl, rfl⟩)
    | (go_at_call 13; refine (awake_t _).mono ?_; rintro e w2 ⟨rfl, f2⟩))
  go_ret
  exact ⟨rfl, f1.trans f2 (fun _ _ h => h)⟩
end Go.Proofs.Ytcdadpbnmilgiaa
