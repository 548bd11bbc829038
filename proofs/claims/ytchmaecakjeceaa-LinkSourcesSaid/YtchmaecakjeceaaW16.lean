/- LinkWithin returns true. -/
import Derived.Test.YtchmaecakjeceaaW15
import Derived.Test.YtchmaecakjeceaaW14
namespace Go.Proofs.Ytchmaecakjeceaa
open Go.RowKit

theorem s_cells {w : World} {b : Nat} {s0 s1 s2 : Int} (h : Blk w b 41 #[.int .i64 s0, .int .i64 s1, .int .i64 s2]) :
    w.cell? ⟨b, 0, none⟩ = some (.int .i64 s0) ∧ w.cell? ⟨b, 1, none⟩ = some (.int .i64 s1) ∧ w.cell? ⟨b, 2, none⟩ = some (.int .i64 s2) :=
  ⟨h.cellIs rfl, h.cellIs rfl, h.cellIs rfl⟩
theorem check_c {d0 d1 v0 v1 ls sd : Int} {A : Option Addr} {n c B : Nat} {cs : List Chg} {e0 : Int} {w : World} (h : LC w A n B cs) (H : Hid (chk d0 d1 v0 v1 ls cs = e0)) :
    Calls Try.prog 12 #[.agg #[.int .i64 d0, .int .i64 d1, .int .i64 v0, .int .i64 v1, .int .i64 ls, .int .u64 sd, .slice A n c]] w fun e w' => e = .returned (.int .i64 e0) ∧ Frm w w' NoB := check_b h H

section
variable (d0 d1 v0 v1 ls sd : Int) (A : Option Addr) (n c B : Nat) (cs : List Chg) (s0 s1 s2 : Int) (w : World)
set_option maxHeartbeats 8000000 in
theorem linkWithin_far (HP : Hid (decide ((n : Int) ≤ 100) = false)) :
    Calls Try.prog 7 #[.agg #[.int .i64 d0, .int .i64 d1, .int .i64 v0, .int .i64 v1, .int .i64 ls, .int .u64 sd, .slice A n c], .agg #[.int .i64 s0, .int .i64 s1, .int .i64 s2]] w fun e w' => e = .returned (.bool true) ∧ Frm w w' NoB := by
  have hF : Frm w ((w.alloc (.cells (LkCells d0 d1 v0 v1 ls sd A n c) 26)).alloc (.cells #[.int .i64 s0, .int .i64 s1, .int .i64 s2] 41)) NoB := ((Frm.refl w _).alloc _).alloc _
  have hB : Blk ((w.alloc (.cells (LkCells d0 d1 v0 v1 ls sd A n c) 26)).alloc (.cells #[.int .i64 s0, .int .i64 s1, .int .i64 s2] 41)) w.heap.size 26 (LkCells d0 d1 v0 v1 ls sd A n c) := (Blk.new _ _ _).alloc _
  have hS : Blk ((w.alloc (.cells (LkCells d0 d1 v0 v1 ls sd A n c) 26)).alloc (.cells #[.int .i64 s0, .int .i64 s1, .int .i64 s2] 41)) (w.heap.size + 1) 41 #[.int .i64 s0, .int .i64 s1, .int .i64 s2] := Blk.newAt _ _ _ (by simp)
  go_enter Try.func7, Try.ntmps7
  go_wp2_with (first | (go_at_call 10; (with_reducible refine (small_b HP _).mono ?_); rintro e x1 ⟨rfl, f1⟩; replace hF := hF.trans f1 (fun _ _ e => e); replace hB := hB.frm f1 (fun e => e); replace hS := hS.frm f1 (fun e => e); obtain ⟨_, _, _, _, _, _, _⟩ := lk_cells hB; obtain ⟨_, _, _⟩ := s_cells hS) | (go_at_call 11; (with_reducible refine (awake_t _).mono ?_); rintro e x1 ⟨rfl, f1⟩; replace hF := hF.trans f1 (fun _ _ e => e); replace hB := hB.frm f1 (fun e => e); replace hS := hS.frm f1 (fun e => e); obtain ⟨_, _, _, _, _, _, _⟩ := lk_cells hB; obtain ⟨_, _, _⟩ := s_cells hS))
  go_ret
  exact ⟨rfl, hF⟩
set_option maxHeartbeats 8000000 in
theorem linkWithin_odd (HP : Hid (decide ((n : Int) ≤ 100) = true)) (HR : Hid (rt s0 s1 s2 = false)) :
    Calls Try.prog 7 #[.agg #[.int .i64 d0, .int .i64 d1, .int .i64 v0, .int .i64 v1, .int .i64 ls, .int .u64 sd, .slice A n c], .agg #[.int .i64 s0, .int .i64 s1, .int .i64 s2]] w fun e w' => e = .returned (.bool true) ∧ Frm w w' NoB := by
  have hF : Frm w ((w.alloc (.cells (LkCells d0 d1 v0 v1 ls sd A n c) 26)).alloc (.cells #[.int .i64 s0, .int .i64 s1, .int .i64 s2] 41)) NoB := ((Frm.refl w _).alloc _).alloc _
  have hB : Blk ((w.alloc (.cells (LkCells d0 d1 v0 v1 ls sd A n c) 26)).alloc (.cells #[.int .i64 s0, .int .i64 s1, .int .i64 s2] 41)) w.heap.size 26 (LkCells d0 d1 v0 v1 ls sd A n c) := (Blk.new _ _ _).alloc _
  have hS : Blk ((w.alloc (.cells (LkCells d0 d1 v0 v1 ls sd A n c) 26)).alloc (.cells #[.int .i64 s0, .int .i64 s1, .int .i64 s2] 41)) (w.heap.size + 1) 41 #[.int .i64 s0, .int .i64 s1, .int .i64 s2] := Blk.newAt _ _ _ (by simp)
  go_enter Try.func7, Try.ntmps7
  go_wp2_with (first | (go_at_call 10; (with_reducible refine (small_b HP _).mono ?_); rintro e x1 ⟨rfl, f1⟩; replace hF := hF.trans f1 (fun _ _ e => e); replace hB := hB.frm f1 (fun e => e); replace hS := hS.frm f1 (fun e => e); obtain ⟨_, _, _, _, _, _, _⟩ := lk_cells hB; obtain ⟨_, _, _⟩ := s_cells hS) | (go_at_call 24; (with_reducible refine (lright_b HR _).mono ?_); rintro e x1 ⟨rfl, rfl⟩) | (go_at_call 11; (with_reducible refine (awake_t _).mono ?_); rintro e x1 ⟨rfl, f1⟩; replace hF := hF.trans f1 (fun _ _ e => e); replace hB := hB.frm f1 (fun e => e); replace hS := hS.frm f1 (fun e => e); obtain ⟨_, _, _, _, _, _, _⟩ := lk_cells hB; obtain ⟨_, _, _⟩ := s_cells hS))
  go_ret
  exact ⟨rfl, hF⟩
set_option maxHeartbeats 8000000 in
theorem linkWithin_bad {e0 : Int} (HP : Hid (decide ((n : Int) ≤ 100) = true)) (HR : Hid (rt s0 s1 s2 = true)) (hL : LC w A n B cs) (HE : Hid (chk d0 d1 v0 v1 ls cs = e0)) (he : e0 ≠ 0) :
    Calls Try.prog 7 #[.agg #[.int .i64 d0, .int .i64 d1, .int .i64 v0, .int .i64 v1, .int .i64 ls, .int .u64 sd, .slice A n c], .agg #[.int .i64 s0, .int .i64 s1, .int .i64 s2]] w fun e w' => e = .returned (.bool true) ∧ Frm w w' NoB := by
  have hF : Frm w ((w.alloc (.cells (LkCells d0 d1 v0 v1 ls sd A n c) 26)).alloc (.cells #[.int .i64 s0, .int .i64 s1, .int .i64 s2] 41)) NoB := ((Frm.refl w _).alloc _).alloc _
  have hB : Blk ((w.alloc (.cells (LkCells d0 d1 v0 v1 ls sd A n c) 26)).alloc (.cells #[.int .i64 s0, .int .i64 s1, .int .i64 s2] 41)) w.heap.size 26 (LkCells d0 d1 v0 v1 ls sd A n c) := (Blk.new _ _ _).alloc _
  have hS : Blk ((w.alloc (.cells (LkCells d0 d1 v0 v1 ls sd A n c) 26)).alloc (.cells #[.int .i64 s0, .int .i64 s1, .int .i64 s2] 41)) (w.heap.size + 1) 41 #[.int .i64 s0, .int .i64 s1, .int .i64 s2] := Blk.newAt _ _ _ (by simp)
  have hg : arrB d0 d1 v0 v1 ls sd cs s0 s1 s2 = false := arr_chk (by rw [HE.out]; exact he)
  have ht := arr_no hg
  have HG := Lib.hid hg
  have HT := Lib.hid ht
  have hb : (e0 != 0) = true := by rw [bne_iff_ne]; exact he
  clear hg ht he
  replace hL := (hL.alloc (.cells (LkCells d0 d1 v0 v1 ls sd A n c) 26)).alloc (.cells #[.int .i64 s0, .int .i64 s1, .int .i64 s2] 41)
  go_enter Try.func7, Try.ntmps7
  go_wp2_with (first
    | (go_at_call 10; (with_reducible refine (small_b HP _).mono ?_); rintro e x1 ⟨rfl, f1⟩; replace hL := hL.frm f1; replace hF := hF.trans f1 (fun _ _ e => e); replace hB := hB.frm f1 (fun e => e); replace hS := hS.frm f1 (fun e => e); obtain ⟨_, _, _, _, _, _, _⟩ := lk_cells hB; obtain ⟨_, _, _⟩ := s_cells hS)
    | (go_at_call 24; (with_reducible refine (lright_b HR _).mono ?_); rintro e x1 ⟨rfl, rfl⟩)
    | (go_at_call 22; (with_reducible refine (arrive_b hL HT HG).mono ?_); rintro e x1 ⟨rfl, f1⟩; replace hL := hL.frm f1; replace hF := hF.trans f1 (fun _ _ e => e); replace hB := hB.frm f1 (fun e => e); replace hS := hS.frm f1 (fun e => e); obtain ⟨_, _, _, _, _, _, _⟩ := lk_cells hB; obtain ⟨_, _, _⟩ := s_cells hS)
    | (go_at_call 12; (with_reducible refine (check_c hL HE).mono ?_); rintro e x1 ⟨rfl, f1⟩; replace hL := hL.frm f1; replace hF := hF.trans f1 (fun _ _ e => e); replace hB := hB.frm f1 (fun e => e); replace hS := hS.frm f1 (fun e => e); obtain ⟨_, _, _, _, _, _, _⟩ := lk_cells hB; obtain ⟨_, _, _⟩ := s_cells hS)
    | (go_at_call 11; (with_reducible refine (awake_t _).mono ?_); rintro e x1 ⟨rfl, f1⟩; replace hF := hF.trans f1 (fun _ _ e => e); replace hB := hB.frm f1 (fun e => e); replace hS := hS.frm f1 (fun e => e); obtain ⟨_, _, _, _, _, _, _⟩ := lk_cells hB; obtain ⟨_, _, _⟩ := s_cells hS))
  go_ret
  exact ⟨rfl, hF⟩
set_option maxHeartbeats 8000000 in
theorem linkWithin_lost {lo hi : Int} (HP : Hid (decide ((n : Int) ≤ 100) = true)) (HR : Hid (rt s0 s1 s2 = true)) (hL : LC w A n B cs) (HE : Hid (chk d0 d1 v0 v1 ls cs = 0))
    (HG : Hid (arrB d0 d1 v0 v1 ls sd cs s0 s1 s2 = false)) (HT : Hid (arrT d0 d1 v0 v1 ls sd cs s0 s1 s2 = 0)) (HLo : Hid (bLo d0 d1 v0 v1 ls cs s0 = lo)) (HHi : Hid (bHi d0 d1 v0 v1 ls cs s0 = hi))
    (h1 : 0 ≤ lo) (h2 : lo ≤ hi) (h3 : hi ≤ 20000000000) (h4 : 0 < ls) :
    Calls Try.prog 7 #[.agg #[.int .i64 d0, .int .i64 d1, .int .i64 v0, .int .i64 v1, .int .i64 ls, .int .u64 sd, .slice A n c], .agg #[.int .i64 s0, .int .i64 s1, .int .i64 s2]] w fun e w' => e = .returned (.bool true) ∧ Frm w w' NoB := by
  have hF : Frm w ((w.alloc (.cells (LkCells d0 d1 v0 v1 ls sd A n c) 26)).alloc (.cells #[.int .i64 s0, .int .i64 s1, .int .i64 s2] 41)) NoB := ((Frm.refl w _).alloc _).alloc _
  have hB : Blk ((w.alloc (.cells (LkCells d0 d1 v0 v1 ls sd A n c) 26)).alloc (.cells #[.int .i64 s0, .int .i64 s1, .int .i64 s2] 41)) w.heap.size 26 (LkCells d0 d1 v0 v1 ls sd A n c) := (Blk.new _ _ _).alloc _
  have hS : Blk ((w.alloc (.cells (LkCells d0 d1 v0 v1 ls sd A n c) 26)).alloc (.cells #[.int .i64 s0, .int .i64 s1, .int .i64 s2] 41)) (w.heap.size + 1) 41 #[.int .i64 s0, .int .i64 s1, .int .i64 s2] := Blk.newAt _ _ _ (by simp)
  replace hL := (hL.alloc (.cells (LkCells d0 d1 v0 v1 ls sd A n c) 26)).alloc (.cells #[.int .i64 s0, .int .i64 s1, .int .i64 s2] 41)
  go_enter Try.func7, Try.ntmps7
  go_wp2_with (first
    | (go_at_call 10; (with_reducible refine (small_b HP _).mono ?_); rintro e x1 ⟨rfl, f1⟩; replace hL := hL.frm f1; replace hF := hF.trans f1 (fun _ _ e => e); replace hB := hB.frm f1 (fun e => e); replace hS := hS.frm f1 (fun e => e); obtain ⟨_, _, _, _, _, _, _⟩ := lk_cells hB; obtain ⟨_, _, _⟩ := s_cells hS)
    | (go_at_call 24; (with_reducible refine (lright_b HR _).mono ?_); rintro e x1 ⟨rfl, rfl⟩)
    | (go_at_call 22; (with_reducible refine (arrive_b hL HT HG).mono ?_); rintro e x1 ⟨rfl, f1⟩; replace hL := hL.frm f1; replace hF := hF.trans f1 (fun _ _ e => e); replace hB := hB.frm f1 (fun e => e); replace hS := hS.frm f1 (fun e => e); obtain ⟨_, _, _, _, _, _, _⟩ := lk_cells hB; obtain ⟨_, _, _⟩ := s_cells hS)
    | (go_at_call 12; (with_reducible refine (check_c hL HE).mono ?_); rintro e x1 ⟨rfl, f1⟩; replace hL := hL.frm f1; replace hF := hF.trans f1 (fun _ _ e => e); replace hB := hB.frm f1 (fun e => e); replace hS := hS.frm f1 (fun e => e); obtain ⟨_, _, _, _, _, _, _⟩ := lk_cells hB; obtain ⟨_, _, _⟩ := s_cells hS)
    | (go_at_call 20; (with_reducible refine (bounds_b hL HLo HHi).mono ?_); rintro e x1 ⟨rfl, f1⟩; replace hL := hL.frm f1; replace hF := hF.trans f1 (fun _ _ e => e); replace hB := hB.frm f1 (fun e => e); replace hS := hS.frm f1 (fun e => e); obtain ⟨_, _, _, _, _, _, _⟩ := lk_cells hB; obtain ⟨_, _, _⟩ := s_cells hS; replace hB := hB.alloc (.cells #[.int .i64 lo, .int .i64 hi] 35); replace hS := hS.alloc (.cells #[.int .i64 lo, .int .i64 hi] 35); replace hF := hF.alloc (.cells #[.int .i64 lo, .int .i64 hi] 35); obtain ⟨_, _, _, _, _, _, _⟩ := lk_cells hB; obtain ⟨_, _, _⟩ := s_cells hS)
    | (go_at_call 11; (with_reducible refine (awake_t _).mono ?_); rintro e x1 ⟨rfl, f1⟩; replace hF := hF.trans f1 (fun _ _ e => e); replace hB := hB.frm f1 (fun e => e); replace hS := hS.frm f1 (fun e => e); obtain ⟨_, _, _, _, _, _, _⟩ := lk_cells hB; obtain ⟨_, _, _⟩ := s_cells hS))
  go_ret
  exact ⟨rfl, hF⟩
end
end Go.Proofs.Ytchmaecakjeceaa
