/- awake says true. -/
import Derived.Test.YtdfikembgljpkaaW21
namespace Go.Proofs.Ytdfikembgljpkaa
open Go.RowKit
set_option maxHeartbeats 8000000 in
theorem awake_t (w : World) : Calls Try.prog 11 #[] w fun e w' => e = .returned (.bool true) ∧ Frm w w' NoB := by
  have hA : LI ((w.alloc (.cells #[.int .i64 0, .int .i64 1, .int .i64 10] 3)).alloc (.cells #[.int .i64 5, .int .i64 5, .int .i64 2] 3)) (some ⟨w.heap.size, 0, none⟩) 3 (w.heap.size + 1) exA := (LI.new3 w 0 1 10).alloc _
  have hS : LI ((w.alloc (.cells #[.int .i64 0, .int .i64 1, .int .i64 10] 3)).alloc (.cells #[.int .i64 5, .int .i64 5, .int .i64 2] 3)) (some ⟨w.heap.size + 1, 0, none⟩) 3 (w.heap.size + 1 + 1) exS := by
    have h := LI.new3 (w.alloc (.cells #[.int .i64 0, .int .i64 1, .int .i64 10] 3)) 5 5 2
    rw [show (w.alloc (.cells #[.int .i64 0, .int .i64 1, .int .i64 10] 3)).heap.size = w.heap.size + 1 by simp] at h
    exact h
  have hF : Frm w ((w.alloc (.cells #[.int .i64 0, .int .i64 1, .int .i64 10] 3)).alloc (.cells #[.int .i64 5, .int .i64 5, .int .i64 2] 3)) NoB := ((Frm.refl w NoB).alloc _).alloc _
  go_enter Try.func11, Try.ntmps11
  go_wp2_with (first
    | (go_at_call 12; (with_reducible refine (ex_pass hA hS).mono ?_); rintro e x1 ⟨A3, c3, rfl, h3, f1⟩; replace hA := hA.frm f1; replace hS := hS.frm f1; replace hF := hF.trans f1 (fun _ _ h => h); clear f1)
    | (go_at_call 14; (with_reducible refine (ex_waits hA hS).mono ?_); rintro e x1 ⟨A5, c5, rfl, h5, f1⟩; replace hA := hA.frm f1; replace hS := hS.frm f1; replace h3 := h3.frm f1; replace hF := hF.trans f1 (fun _ _ h => h); clear f1)
    | (go_at_call 17; (with_reducible refine (ex_busy hA hS).mono ?_); rintro e x1 ⟨A7, c7, rfl, h7, f1⟩; replace hA := hA.frm f1; replace hS := hS.frm f1; replace h3 := h3.frm f1; replace h5 := h5.frm f1; replace hF := hF.trans f1 (fun _ _ h => h); clear f1)
    | (go_at_call 22; (with_reducible refine (ex_chain hA hS).mono ?_); rintro e x1 ⟨A9, c9, rfl, h9, f1⟩; replace hA := hA.frm f1; replace h3 := h3.frm f1; replace h5 := h5.frm f1; replace h7 := h7.frm f1; replace hF := hF.trans f1 (fun _ _ h => h); clear f1 hS)
    | (go_at_call 16; (with_reducible refine (ex_eql (h3.alloc _) (LI.new3 _ 5 10 12)).mono ?_); rintro e x1 ⟨rfl, f1⟩; replace f1 := ((Frm.refl _ NoB).alloc _).trans f1 (fun _ _ h => h); replace hA := hA.frm f1; replace h3 := h3.frm f1; replace h5 := h5.frm f1; replace h7 := h7.frm f1; replace h9 := h9.frm f1; replace hF := hF.trans f1 (fun _ _ h => h); clear f1)
    | (go_at_call 16; (with_reducible refine (ex_eql (h5.alloc _) (LI.new3 _ 0 4 0)).mono ?_); rintro e x1 ⟨rfl, f1⟩; replace f1 := ((Frm.refl _ NoB).alloc _).trans f1 (fun _ _ h => h); replace hA := hA.frm f1; replace h3 := h3.frm f1; replace h7 := h7.frm f1; replace h9 := h9.frm f1; replace hF := hF.trans f1 (fun _ _ h => h); clear f1)
    | (go_at_call 19; (with_reducible refine (eqv_same _ _ _ _ _ _ _ _ _ (h7.alloc _) (LV.new1 _ 0 12)).mono ?_); rintro e x1 ⟨rfl, f1⟩; replace f1 := ((Frm.refl _ NoB).alloc _).trans f1 (fun _ _ h => h); replace hA := hA.frm f1; replace h3 := h3.frm f1; replace h9 := h9.frm f1; replace hF := hF.trans f1 (fun _ _ h => h); clear f1)
    | (go_at_call 16; (with_reducible refine (ex_eql (h9.alloc _) (LI.new3 _ 10 15 17)).mono ?_); rintro e x1 ⟨rfl, f1⟩; replace f1 := ((Frm.refl _ NoB).alloc _).trans f1 (fun _ _ h => h); replace hA := hA.frm f1; replace h3 := h3.frm f1; replace hF := hF.trans f1 (fun _ _ h => h); clear f1)
    | (go_at_call 20; (with_reducible refine (ex_b4c hA h3).mono ?_); rintro e x1 ⟨rfl, f1⟩; replace hA := hA.frm f1; replace h3 := h3.frm f1; replace hF := hF.trans f1 (fun _ _ h => h); clear f1)
    | (go_at_call 20; (with_reducible refine (ex_b10c hA h3).mono ?_); rintro e x1 ⟨rfl, f1⟩; replace hF := hF.trans f1 (fun _ _ h => h); clear f1))
  go_ret
  exact ⟨rfl, hF⟩
end Go.Proofs.Ytdfikembgljpkaa
