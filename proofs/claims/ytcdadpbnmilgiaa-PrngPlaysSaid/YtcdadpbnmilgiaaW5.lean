/- The chapter's examples hold: awake returns true. -/
import Derived.Test.YtcdadpbnmilgiaaW4
namespace Go.Proofs.Ytcdadpbnmilgiaa
open Go.RowKit PrngPure

theorem mix_00 : mix 0 0 = 16294208416658607535 := by decide +kernel
theorem mixI_00 : mixI 0 0 = 16294208416658607535 := by
  have h := mixI_nat 0 0
  rw [mix_00] at h
  exact h
theorem mix_t00 (w : World) :
    Calls Try.prog 11 #[.int .u64 0, .int .u64 0] w fun e w' => e = .returned (.int .u64 16294208416658607535) ∧ Frm w w' NoB := by
  have h := mix_t 0 0 w
  rw [mixI_00] at h
  exact h
theorem next_t00 (g : Nat) (w : World) (hg : Blk w g 53 #[.int .u64 0, .int .u64 0]) :
    Calls Try.prog 15 #[.pointer (some ⟨g, 0, none⟩)] w fun e w' => e = .returned (.int .u64 16294208416658607535) ∧ Blk w' g 53 #[.int .u64 0, .int .u64 (sc 0)] ∧ Frm w w' (· = g) := by
  have h := next_t g 0 0 w hg
  rw [mixI_00] at h
  exact h
theorem perm_one (g : Nat) (s c : Int) (w : World) (hg : Blk w g 53 #[.int .u64 s, .int .u64 c]) :
    Calls Try.prog 18 #[.pointer (some ⟨g, 0, none⟩), .int .i64 1] w fun e w' => ∃ b, e = .returned (.slice (some ⟨b, 0, none⟩) 1 1) ∧ w.heap.size ≤ b ∧
      Blk w' b 3 (cel [0]) ∧ Blk w' g 53 #[.int .u64 s, .int .u64 c] ∧ Frm w w' (· = g) := by
  have h := perm_yes g 1 s c w (by omega) (by omega) hg
  exact h
theorem eql_one (A B : Option Addr) (c d bA bB : Nat) (w : World) (hA : RdI w bA A [0]) (hB : RdI w bB B [0]) (hbA : bA ≤ w.heap.size) (hbB : bB ≤ w.heap.size) :
    Calls Try.prog 19 #[.slice A 1 c, .slice B 1 d] w fun e w' => e = .returned (.bool true) ∧ Frm w w' NoB :=
  eql_t A B c d bA bB [0] [0] w (by decide) hA hB hbA hbB

set_option maxHeartbeats 1000000 in
theorem awake_t (w : World) : Calls Try.prog 13 #[] w fun e w' => e = .returned (.bool true) ∧ Frm w w' NoB := by
  go_enter Try.func13, Try.ntmps13
  go_wp2_with (first
    | (go_at_call 14; refine (new_t _ _).mono ?_; rintro e w1 ⟨rfl, hb1, f1⟩)
    | (go_at_call 17; refine (range_no _ _ _ _ (by omega)).mono ?_; rintro e w2 ⟨rfl, f2⟩)
    | (go_at_call 18; refine (perm_one w.heap.size 0 0 _ (hb1.frm f2 (fun h => h))).mono ?_; rintro e w3 ⟨l, rfl, hl, hbl, hb3, f3⟩)
    | (go_at_call 11; refine (mix_t00 _).mono ?_; rintro e w4 ⟨rfl, f4⟩)
    | (go_at_call 19; refine (eql_one _ _ _ _ (l + 1) (w4.heap.size + 1) _ ((RdI.of_blk hbl).frm0 (f4.alloc _) hbl.lt) (RdI.of_blk (Blk.new _ _ _)) (by have := hbl.lt; have := f4.size; simp; omega) (by simp)).mono ?_; rintro e w5 ⟨rfl, f5⟩)
    | (go_at_call 15; refine (next_t00 w.heap.size _ (hb3.frm (f4.alloc _) (fun h => h) |>.frm f5 (fun h => h))).mono ?_; rintro e w6 ⟨rfl, hb6, f6⟩))
  go_ret
  refine ⟨rfl, ?_⟩
  have g3 : Frm w w3 NoB := ((f1.trans f2 (fun _ _ h => h)).trans f3 (fun i hi h => by subst h; omega))
  have g5 : Frm w w5 NoB := (g3.trans (f4.alloc _) (fun _ _ h => h)).trans f5 (fun _ _ h => h)
  exact g5.trans f6 (fun i hi h => by subst h; omega)
end Go.Proofs.Ytcdadpbnmilgiaa
