/- The chapter's examples: awake says true. -/
import Derived.Test.YthpakpljfgmkfaaW16
namespace Go.Proofs.Ythpakpljfgmkfaa
open Go.RowKit

theorem chk_ex {xs : List Int} (h1 : xs.length ≤ 1024) (h2 : ∀ x ∈ xs, -1099511627776 ≤ x ∧ x ≤ 1099511627776) : chk xs = 0 :=
  chk_ok (by omega) (fun j hj => by
    have e : xs.getD j 0 = xs[j] := by simp [List.getD, hj]
    rw [e]
    exact h2 _ (List.getElem_mem hj))
theorem ex1_chk : chk [0, 3, 1, 7] = 0 := chk_ex (by decide) (by decide)
theorem ex2_chk : chk [0, 1, 4, 9] = 0 := chk_ex (by decide) (by decide)
theorem ex3_chk : chk [0, 0, 1, 0, 0, 0] = 0 := chk_ex (by decide) (by decide)
theorem ex4_chk : chk [5, 6, 9] = 0 := chk_ex (by decide) (by decide)
theorem ex5_chk : chk [3, -4] = 0 := chk_ex (by decide) (by decide)
theorem ex1_e : rgE [0, 3, 1, 7] 3 = 0 := by unfold rgE; rw [if_neg (not_not_intro ex1_chk), if_neg (by decide)]
theorem ex1_v : rgV [0, 3, 1, 7] 3 = 7 := by unfold rgV; rw [if_pos ex1_e]; decide
theorem ex2_e : alE [0, 1, 4, 9] 1 = 0 := by unfold alE; rw [if_neg (not_not_intro ex2_chk), if_neg (by decide), if_pos (by decide)]
theorem ex2_v : alR [0, 1, 4, 9] 1 = .agg #[.int .i64 2, .int .i64 1] := by unfold alR; rw [if_pos ex2_e]; rfl
theorem ex3_e : moE [0, 0, 1, 0, 0, 0] 2 = 0 := by unfold moE; rw [if_neg (not_not_intro ex3_chk), if_neg (by decide), if_pos (by decide)]
theorem ex3_v : moR [0, 0, 1, 0, 0, 0] 2 = .agg #[.int .i64 1, .int .i64 2] := by unfold moR; rw [if_pos ex3_e]; rfl
theorem ex4_e : dtE [5, 6, 9] = 0 := by unfold dtE; rw [if_neg (not_not_intro ex4_chk), if_neg (by decide)]
theorem ex4_v : dtR [5, 6, 9] = [0, -1, 0] := by unfold dtR; rw [if_pos ex4_e]; decide
theorem ex5_v : RmsIs [3, -4] 3 := by
  unfold RmsIs
  rw [if_neg (by rintro (h | h); (cases h); exact h ex5_chk)]
  exact ⟨by decide, by decide, by decide⟩

section
variable (w : World)
theorem new2 (a b : Int) : LI (w.alloc (.cells #[.int .i64 a, .int .i64 b] 3)) (some ⟨w.heap.size, 0, none⟩) 2 (w.heap.size + 1) [a, b] := LI.new w [a, b] (by simp)
theorem new3 (a b c : Int) : LI (w.alloc (.cells #[.int .i64 a, .int .i64 b, .int .i64 c] 3)) (some ⟨w.heap.size, 0, none⟩) 3 (w.heap.size + 1) [a, b, c] := LI.new w [a, b, c] (by simp)
theorem new4 (a b c d : Int) : LI (w.alloc (.cells #[.int .i64 a, .int .i64 b, .int .i64 c, .int .i64 d] 3)) (some ⟨w.heap.size, 0, none⟩) 4 (w.heap.size + 1) [a, b, c, d] := LI.new w [a, b, c, d] (by simp)
theorem new6 (a b c d e f : Int) : LI (w.alloc (.cells #[.int .i64 a, .int .i64 b, .int .i64 c, .int .i64 d, .int .i64 e, .int .i64 f] 3)) (some ⟨w.heap.size, 0, none⟩) 6 (w.heap.size + 1) [a, b, c, d, e, f] := LI.new w [a, b, c, d, e, f] (by simp)
theorem new3a (o : Obj) (a b c : Int) : LI ((w.alloc o).alloc (.cells #[.int .i64 a, .int .i64 b, .int .i64 c] 3)) (some ⟨w.heap.size + 1, 0, none⟩) 3 ((w.alloc o).heap.size + 1) [a, b, c] := by
  have e : w.heap.size + 1 = (w.alloc o).heap.size := by simp
  rw [e]; exact new3 (w.alloc o) a b c
theorem new6a (o : Obj) (a b c d e f : Int) : LI ((w.alloc o).alloc (.cells #[.int .i64 a, .int .i64 b, .int .i64 c, .int .i64 d, .int .i64 e, .int .i64 f] 3)) (some ⟨w.heap.size + 1, 0, none⟩) 6 ((w.alloc o).heap.size + 1) [a, b, c, d, e, f] := by
  have h : w.heap.size + 1 = (w.alloc o).heap.size := by simp
  rw [h]; exact new6 (w.alloc o) a b c d e f
end
theorem ex_rms {A : Option Addr} {c B : Nat} {w : World} (hX : LI w A 2 B [3, -4]) : Calls Try.prog 32 #[.slice A 2 c] w fun e w' => e = .returned (.int .i64 3) ∧ Frm w w' NoB := by
  refine (rms_s hX).mono ?_
  rintro e w' ⟨r, rfl, hr, f⟩
  obtain rfl := rms_unique hr ex5_v
  exact ⟨rfl, f⟩
theorem ex_dt {A : Option Addr} {c B : Nat} {w : World} (hX : LI w A 3 B [5, 6, 9]) :
    Calls Try.prog 20 #[.slice A 3 c] w fun e w' => ∃ A' c', e = .returned (.tuple #[.slice A' 3 c', .int .i64 0]) ∧ LI w' A' 3 w'.heap.size [0, -1, 0] ∧ Frm w w' NoB := by
  refine (detrend_s ex4_e ex4_v hX).mono ?_
  rintro e w' ⟨A', c', rfl, hl, _, f⟩
  exact ⟨A', c', rfl, hl, f⟩

set_option maxHeartbeats 8000000 in
theorem awake_t (w : World) : Calls Try.prog 16 #[] w fun e w' => e = .returned (.bool true) ∧ Frm w w' NoB := by
  have hF : Frm w w NoB := Frm.refl w _
  go_enter Try.func16, Try.ntmps16
  go_wp2_with (first
    | (go_at_call 13; (with_reducible refine (range_s (Lib.hid ex1_e) (Lib.hid ex1_v) (new4 w 0 3 1 7) (by decide)).mono ?_); rintro e x1 ⟨rfl, f1⟩; replace hF := (hF.alloc (.cells #[.int .i64 0, .int .i64 3, .int .i64 1, .int .i64 7] 3)).trans f1 (fun _ _ h => h); clear f1)
    | (go_at_call 25; (with_reducible refine (allan_s (Lib.hid ex2_e) (Lib.hid ex2_v) (new4 x1 0 1 4 9)).mono ?_); rintro e x2 ⟨rfl, f1⟩; replace hF := (hF.alloc (.cells #[.int .i64 0, .int .i64 1, .int .i64 4, .int .i64 9] 3)).trans f1 (fun _ _ h => h); clear f1; replace hF := hF.alloc (.cells #[.int .i64 2, .int .i64 1] 41); have b2 := Blk.new x2 41 #[.int .i64 2, .int .i64 1])
    | (go_at_call 27; (with_reducible refine (modif_s (Lib.hid ex3_e) (Lib.hid ex3_v) (new6a _ _ 0 0 1 0 0 0)).mono ?_); rintro e x3 ⟨rfl, f1⟩; replace f1 := ((Frm.refl _ NoB).alloc (.cells #[.int .i64 0, .int .i64 0, .int .i64 1, .int .i64 0, .int .i64 0, .int .i64 0] 3)).trans f1 (fun _ _ h => h); replace hF := hF.trans f1 (fun _ _ h => h); replace b2 := (b2.frm f1 (fun h => h)).alloc (.cells #[.int .i64 1, .int .i64 2] 41); clear f1; replace hF := hF.alloc (.cells #[.int .i64 1, .int .i64 2] 41); have b3 := Blk.new x3 41 #[.int .i64 1, .int .i64 2])
    | (go_at_call 20; (with_reducible refine (ex_dt (new3a _ _ 5 6 9)).mono ?_); rintro e x4 ⟨A7, c7, rfl, h7, f1⟩; replace f1 := ((Frm.refl _ NoB).alloc (.cells #[.int .i64 5, .int .i64 6, .int .i64 9] 3)).trans f1 (fun _ _ h => h); replace hF := hF.trans f1 (fun _ _ h => h); replace b2 := b2.frm f1 (fun h => h); replace b3 := b3.frm f1 (fun h => h); clear f1; have k0 := b2.cellIs (i := 0) rfl; have k1 := b2.cellIs (i := 1) rfl; have k2 := b3.cellIs (i := 0) rfl; have k3 := b3.cellIs (i := 1) rfl)
    | (go_at_call 19; (with_reducible refine (eql_li (h7.alloc _) (new3 _ 0 (-1) 0)).mono ?_); rintro e x5 ⟨rfl, f1⟩; replace f1 := ((Frm.refl _ NoB).alloc _).trans f1 (fun _ _ h => h); replace hF := hF.trans f1 (fun _ _ h => h); clear f1)
    | (go_at_call 32; (with_reducible refine (ex_rms (new2 _ 3 (-4))).mono ?_); rintro e x6 ⟨rfl, f1⟩; replace f1 := ((Frm.refl _ NoB).alloc _).trans f1 (fun _ _ h => h); replace hF := hF.trans f1 (fun _ _ h => h); clear f1))
  go_ret
  exact ⟨rfl, hF⟩
end Go.Proofs.Ythpakpljfgmkfaa
