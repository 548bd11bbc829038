/- LinkLosses returns true. -/
import Derived.Test.YtchmaecakjeceaaW16
namespace Go.Proofs.Ytchmaecakjeceaa
open Go.RowKit

theorem LC.put {w : World} {A : Option Addr} {n B : Nat} {cs : List Chg} (h : LC w A n B cs) {b : Nat} (hb : B ≤ b) (o : Nat) (v : Value) : LC (w.setCell ⟨b, o, none⟩ v) A n B cs := by
  refine ⟨h.hn, h.HN, ?_, by simpa [World.setCell] using h.hB⟩
  rcases h.hA with h | ⟨b', o', h1, h2, h3⟩
  · exact .inl h
  · refine .inr ⟨b', o', h1, h2, fun j hj => ?_⟩
    have g : ∀ q, (w.setCell ⟨b, o, none⟩ v).cell? ⟨b', q, none⟩ = w.cell? ⟨b', q, none⟩ := fun q => World.cell?_setCell_other _ _ _ _ (by intro e; injection e with e; omega)
    rw [g, g, g]
    exact h3 j hj
theorem chk_ls {d0 d1 v0 v1 ls : Int} {cs : List Chg} (h : chk d0 d1 v0 v1 ls cs = 0) {x : Int} (hx : 0 ≤ x ∧ x ≤ 1000) : chk d0 d1 v0 v1 x cs = 0 := by
  obtain ⟨hh, ha, hl, ho⟩ := chk_zero h
  refine chk_ok ?_ ha (Nat.not_lt.2 hl) ho
  unfold hd at hh ⊢
  simp only [Bool.and_eq_true] at hh ⊢
  exact ⟨hh.1, okr_iff.2 hx⟩
theorem arr_ls {d0 d1 v0 v1 ls sd : Int} {cs : List Chg} {dir at_ m x : Int} (hc : chk d0 d1 v0 v1 ls cs = 0) (hr : rt dir at_ m = true) (hx : 0 ≤ x ∧ x ≤ 1000) :
    delayF d0 d1 v0 v1 x cs dir at_ = delayF d0 d1 v0 v1 ls cs dir at_ ∧ noiseF d0 d1 v0 v1 x sd cs dir m = noiseF d0 d1 v0 v1 ls sd cs dir m := by
  obtain ⟨h1, h2, h3⟩ := rt_iff.1 hr
  have z1 : (0 : Int) ≤ 0 ∧ (0 : Int) ≤ 1125899906842624 := by decide
  have z2 : (0 : Int) ≤ 0 ∧ (0 : Int) ≤ 1099511627776 := by decide
  have hc' := chk_ls hc hx
  constructor
  · unfold delayF
    rw [if_pos (vld_iff.2 ⟨hc, h1, h2, z2⟩), if_pos (vld_iff.2 ⟨hc', h1, h2, z2⟩)]
  · unfold noiseF
    rw [if_pos (vld_iff.2 ⟨hc, h1, z1, h3⟩), if_pos (vld_iff.2 ⟨hc', h1, z1, h3⟩)]

section
variable (d0 d1 v0 v1 ls sd : Int) (A : Option Addr) (n c B : Nat) (cs : List Chg) (s0 s1 s2 lz : Int) (w : World)
set_option maxHeartbeats 8000000 in
theorem linkLosses_far (HP : Hid (decide ((n : Int) ≤ 100) = false)) :
    Calls Try.prog 8 #[.agg #[.int .i64 d0, .int .i64 d1, .int .i64 v0, .int .i64 v1, .int .i64 ls, .int .u64 sd, .slice A n c], .agg #[.int .i64 s0, .int .i64 s1, .int .i64 s2], .int .i64 lz] w fun e w' => e = .returned (.bool true) ∧ Frm w w' NoB := by
  have hF : Frm w ((w.alloc (.cells (LkCells d0 d1 v0 v1 ls sd A n c) 26)).alloc (.cells #[.int .i64 s0, .int .i64 s1, .int .i64 s2] 41)) NoB := ((Frm.refl w _).alloc _).alloc _
  have hB : Blk ((w.alloc (.cells (LkCells d0 d1 v0 v1 ls sd A n c) 26)).alloc (.cells #[.int .i64 s0, .int .i64 s1, .int .i64 s2] 41)) w.heap.size 26 (LkCells d0 d1 v0 v1 ls sd A n c) := (Blk.new _ _ _).alloc _
  have hS : Blk ((w.alloc (.cells (LkCells d0 d1 v0 v1 ls sd A n c) 26)).alloc (.cells #[.int .i64 s0, .int .i64 s1, .int .i64 s2] 41)) (w.heap.size + 1) 41 #[.int .i64 s0, .int .i64 s1, .int .i64 s2] := Blk.newAt _ _ _ (by simp)
  go_enter Try.func8, Try.ntmps8
  go_wp2_with (first | (go_at_call 10; (with_reducible refine (small_b HP _).mono ?_); rintro e x1 ⟨rfl, f1⟩; replace hF := hF.trans f1 (fun _ _ e => e); replace hB := hB.frm f1 (fun e => e); replace hS := hS.frm f1 (fun e => e); obtain ⟨_, _, _, _, _, _, _⟩ := lk_cells hB; obtain ⟨_, _, _⟩ := s_cells hS) | (go_at_call 11; (with_reducible refine (awake_t _).mono ?_); rintro e x1 ⟨rfl, f1⟩; replace hF := hF.trans f1 (fun _ _ e => e); replace hB := hB.frm f1 (fun e => e); replace hS := hS.frm f1 (fun e => e); obtain ⟨_, _, _, _, _, _, _⟩ := lk_cells hB; obtain ⟨_, _, _⟩ := s_cells hS))
  go_ret
  exact ⟨rfl, hF⟩
set_option maxHeartbeats 8000000 in
theorem linkLosses_off {q : Bool} {e0 : Int} (HP : Hid (decide ((n : Int) ≤ 100) = true)) (HR : Hid (rt s0 s1 s2 = q)) (hL : LC w A n B cs) (HE : Hid (chk d0 d1 v0 v1 ls cs = e0))
    (h : q = false ∨ q = true ∧ (e0 ≠ 0 ∨ e0 = 0 ∧ (lz < 0 ∨ 0 ≤ lz ∧ ls < lz))) :
    Calls Try.prog 8 #[.agg #[.int .i64 d0, .int .i64 d1, .int .i64 v0, .int .i64 v1, .int .i64 ls, .int .u64 sd, .slice A n c], .agg #[.int .i64 s0, .int .i64 s1, .int .i64 s2], .int .i64 lz] w fun e w' => e = .returned (.bool true) ∧ Frm w w' NoB := by
  have hF : Frm w ((w.alloc (.cells (LkCells d0 d1 v0 v1 ls sd A n c) 26)).alloc (.cells #[.int .i64 s0, .int .i64 s1, .int .i64 s2] 41)) NoB := ((Frm.refl w _).alloc _).alloc _
  have hB : Blk ((w.alloc (.cells (LkCells d0 d1 v0 v1 ls sd A n c) 26)).alloc (.cells #[.int .i64 s0, .int .i64 s1, .int .i64 s2] 41)) w.heap.size 26 (LkCells d0 d1 v0 v1 ls sd A n c) := (Blk.new _ _ _).alloc _
  have hS : Blk ((w.alloc (.cells (LkCells d0 d1 v0 v1 ls sd A n c) 26)).alloc (.cells #[.int .i64 s0, .int .i64 s1, .int .i64 s2] 41)) (w.heap.size + 1) 41 #[.int .i64 s0, .int .i64 s1, .int .i64 s2] := Blk.newAt _ _ _ (by simp)
  replace hL := (hL.alloc (.cells (LkCells d0 d1 v0 v1 ls sd A n c) 26)).alloc (.cells #[.int .i64 s0, .int .i64 s1, .int .i64 s2] 41)
  rcases h with rfl | ⟨rfl, h | ⟨rfl, h | ⟨h, h'⟩⟩⟩
  · go_enter Try.func8, Try.ntmps8
    go_wp2_with (first | (go_at_call 10; (with_reducible refine (small_b HP _).mono ?_); rintro e x1 ⟨rfl, f1⟩; replace hF := hF.trans f1 (fun _ _ e => e); replace hB := hB.frm f1 (fun e => e); replace hS := hS.frm f1 (fun e => e); obtain ⟨_, _, _, _, _, _, _⟩ := lk_cells hB; obtain ⟨_, _, _⟩ := s_cells hS) | (go_at_call 24; (with_reducible refine (lright_b HR _).mono ?_); rintro e x1 ⟨rfl, rfl⟩) | (go_at_call 11; (with_reducible refine (awake_t _).mono ?_); rintro e x1 ⟨rfl, f1⟩; replace hF := hF.trans f1 (fun _ _ e => e); replace hB := hB.frm f1 (fun e => e); replace hS := hS.frm f1 (fun e => e); obtain ⟨_, _, _, _, _, _, _⟩ := lk_cells hB; obtain ⟨_, _, _⟩ := s_cells hS))
    go_ret
    exact ⟨rfl, hF⟩
  · have hb : (e0 != 0) = true := by rw [bne_iff_ne]; exact h
    clear h
    go_enter Try.func8, Try.ntmps8
    go_wp2_with (first | (go_at_call 10; (with_reducible refine (small_b HP _).mono ?_); rintro e x1 ⟨rfl, f1⟩; replace hL := hL.frm f1; replace hF := hF.trans f1 (fun _ _ e => e); replace hB := hB.frm f1 (fun e => e); replace hS := hS.frm f1 (fun e => e); obtain ⟨_, _, _, _, _, _, _⟩ := lk_cells hB; obtain ⟨_, _, _⟩ := s_cells hS) | (go_at_call 24; (with_reducible refine (lright_b HR _).mono ?_); rintro e x1 ⟨rfl, rfl⟩) | (go_at_call 12; (with_reducible refine (check_c hL HE).mono ?_); rintro e x1 ⟨rfl, f1⟩; replace hL := hL.frm f1; replace hF := hF.trans f1 (fun _ _ e => e); replace hB := hB.frm f1 (fun e => e); replace hS := hS.frm f1 (fun e => e); obtain ⟨_, _, _, _, _, _, _⟩ := lk_cells hB; obtain ⟨_, _, _⟩ := s_cells hS) | (go_at_call 11; (with_reducible refine (awake_t _).mono ?_); rintro e x1 ⟨rfl, f1⟩; replace hF := hF.trans f1 (fun _ _ e => e); replace hB := hB.frm f1 (fun e => e); replace hS := hS.frm f1 (fun e => e); obtain ⟨_, _, _, _, _, _, _⟩ := lk_cells hB; obtain ⟨_, _, _⟩ := s_cells hS))
    go_ret
    exact ⟨rfl, hF⟩
  · go_enter Try.func8, Try.ntmps8
    go_wp2_with (first | (go_at_call 10; (with_reducible refine (small_b HP _).mono ?_); rintro e x1 ⟨rfl, f1⟩; replace hL := hL.frm f1; replace hF := hF.trans f1 (fun _ _ e => e); replace hB := hB.frm f1 (fun e => e); replace hS := hS.frm f1 (fun e => e); obtain ⟨_, _, _, _, _, _, _⟩ := lk_cells hB; obtain ⟨_, _, _⟩ := s_cells hS) | (go_at_call 24; (with_reducible refine (lright_b HR _).mono ?_); rintro e x1 ⟨rfl, rfl⟩) | (go_at_call 12; (with_reducible refine (check_c hL HE).mono ?_); rintro e x1 ⟨rfl, f1⟩; replace hL := hL.frm f1; replace hF := hF.trans f1 (fun _ _ e => e); replace hB := hB.frm f1 (fun e => e); replace hS := hS.frm f1 (fun e => e); obtain ⟨_, _, _, _, _, _, _⟩ := lk_cells hB; obtain ⟨_, _, _⟩ := s_cells hS) | (go_at_call 11; (with_reducible refine (awake_t _).mono ?_); rintro e x1 ⟨rfl, f1⟩; replace hF := hF.trans f1 (fun _ _ e => e); replace hB := hB.frm f1 (fun e => e); replace hS := hS.frm f1 (fun e => e); obtain ⟨_, _, _, _, _, _, _⟩ := lk_cells hB; obtain ⟨_, _, _⟩ := s_cells hS))
    go_ret
    exact ⟨rfl, hF⟩
  · go_enter Try.func8, Try.ntmps8
    go_wp2_with (first | (go_at_call 10; (with_reducible refine (small_b HP _).mono ?_); rintro e x1 ⟨rfl, f1⟩; replace hL := hL.frm f1; replace hF := hF.trans f1 (fun _ _ e => e); replace hB := hB.frm f1 (fun e => e); replace hS := hS.frm f1 (fun e => e); obtain ⟨_, _, _, _, _, _, _⟩ := lk_cells hB; obtain ⟨_, _, _⟩ := s_cells hS) | (go_at_call 24; (with_reducible refine (lright_b HR _).mono ?_); rintro e x1 ⟨rfl, rfl⟩) | (go_at_call 12; (with_reducible refine (check_c hL HE).mono ?_); rintro e x1 ⟨rfl, f1⟩; replace hL := hL.frm f1; replace hF := hF.trans f1 (fun _ _ e => e); replace hB := hB.frm f1 (fun e => e); replace hS := hS.frm f1 (fun e => e); obtain ⟨_, _, _, _, _, _, _⟩ := lk_cells hB; obtain ⟨_, _, _⟩ := s_cells hS) | (go_at_call 11; (with_reducible refine (awake_t _).mono ?_); rintro e x1 ⟨rfl, f1⟩; replace hF := hF.trans f1 (fun _ _ e => e); replace hB := hB.frm f1 (fun e => e); replace hS := hS.frm f1 (fun e => e); obtain ⟨_, _, _, _, _, _, _⟩ := lk_cells hB; obtain ⟨_, _, _⟩ := s_cells hS))
    go_ret
    exact ⟨rfl, hF⟩

set_option maxHeartbeats 8000000 in
theorem linkLosses_in {g g' : Bool} {t u x : Int} (HP : Hid (decide ((n : Int) ≤ 100) = true)) (HR : Hid (rt s0 s1 s2 = true)) (hL : LC w A n B cs) (HE : Hid (chk d0 d1 v0 v1 ls cs = 0))
    (h0 : 0 ≤ lz) (h1 : lz ≤ ls) (HG : Hid (arrB d0 d1 v0 v1 ls sd cs s0 s1 s2 = g)) (HT : Hid (arrT d0 d1 v0 v1 ls sd cs s0 s1 s2 = t))
    (HG2 : Hid (arrB d0 d1 v0 v1 lz sd cs s0 s1 s2 = g')) (HT2 : Hid (arrT d0 d1 v0 v1 lz sd cs s0 s1 s2 = u))
    (HG3 : Hid (arrB d0 d1 v0 v1 1000 sd cs s0 s1 s2 = false)) (HT3 : Hid (arrT d0 d1 v0 v1 1000 sd cs s0 s1 s2 = x))
    (h : g = true ∧ g' = true ∧ t = u ∨ g = false ∧ g' = true ∨ g = false ∧ g' = false ∧ (lz == 0) = false) :
    Calls Try.prog 8 #[.agg #[.int .i64 d0, .int .i64 d1, .int .i64 v0, .int .i64 v1, .int .i64 ls, .int .u64 sd, .slice A n c], .agg #[.int .i64 s0, .int .i64 s1, .int .i64 s2], .int .i64 lz] w fun e w' => e = .returned (.bool true) ∧ Frm w w' NoB := by
  have hF : Frm w ((w.alloc (.cells (LkCells d0 d1 v0 v1 ls sd A n c) 26)).alloc (.cells #[.int .i64 s0, .int .i64 s1, .int .i64 s2] 41)) NoB := ((Frm.refl w _).alloc _).alloc _
  have hB : Blk ((w.alloc (.cells (LkCells d0 d1 v0 v1 ls sd A n c) 26)).alloc (.cells #[.int .i64 s0, .int .i64 s1, .int .i64 s2] 41)) w.heap.size 26 (LkCells d0 d1 v0 v1 ls sd A n c) := (Blk.new _ _ _).alloc _
  have hS : Blk ((w.alloc (.cells (LkCells d0 d1 v0 v1 ls sd A n c) 26)).alloc (.cells #[.int .i64 s0, .int .i64 s1, .int .i64 s2] 41)) (w.heap.size + 1) 41 #[.int .i64 s0, .int .i64 s1, .int .i64 s2] := Blk.newAt _ _ _ (by simp)
  have hBw := hL.hB
  replace hL := (hL.alloc (.cells (LkCells d0 d1 v0 v1 ls sd A n c) 26)).alloc (.cells #[.int .i64 s0, .int .i64 s1, .int .i64 s2] 41)
  go_enter Try.func8, Try.ntmps8
  go_wp2_with (first
    | (go_at_call 10; (with_reducible refine (small_b HP _).mono ?_); rintro e x1 ⟨rfl, f1⟩; replace hL := hL.frm f1; replace hF := hF.trans f1 (fun _ _ e => e); replace hB := hB.frm f1 (fun e => e); replace hS := hS.frm f1 (fun e => e); obtain ⟨_, _, _, _, _, _, _⟩ := lk_cells hB; obtain ⟨_, _, _⟩ := s_cells hS)
    | (go_at_call 24; (with_reducible refine (lright_b HR _).mono ?_); rintro e x1 ⟨rfl, rfl⟩)
    | (go_at_call 12; (with_reducible refine (check_c hL HE).mono ?_); rintro e x1 ⟨rfl, f1⟩; replace hL := hL.frm f1; replace hF := hF.trans f1 (fun _ _ e => e); replace hB := hB.frm f1 (fun e => e); replace hS := hS.frm f1 (fun e => e); obtain ⟨_, _, _, _, _, _, _⟩ := lk_cells hB; obtain ⟨_, _, _⟩ := s_cells hS)
    | (go_at_call 22; (with_reducible refine (arrive_b hL HT HG).mono ?_); rintro e x1 ⟨rfl, f1⟩; replace hL := hL.frm f1; replace hF := hF.trans f1 (fun _ _ e => e); replace hB := hB.frm f1 (fun e => e); replace hS := hS.frm f1 (fun e => e); obtain ⟨_, _, _, _, _, _, _⟩ := lk_cells hB; obtain ⟨_, _, _⟩ := s_cells hS; have z4 := hB.frozen 4; have hB2 : Blk (x1.setCell ⟨w.heap.size, 4, none⟩ (.int .i64 lz)) w.heap.size 26 (LkCells d0 d1 v0 v1 lz sd A n c) := hB.put 4 (.int .i64 lz); have hS2 := hS.away (b := w.heap.size) (by omega) 4 (.int .i64 lz); obtain ⟨_, _, _, _, _, _, _⟩ := lk_cells hB2; obtain ⟨_, _, _⟩ := s_cells hS2))
  have hL2 := hL.put hBw 4 (.int .i64 lz)
  have hF2 := hF.put (b := w.heap.size) (fun h => by omega) 4 (.int .i64 lz)
  (with_reducible refine (arrive_b hL2 HT2 HG2).mono ?_)
  rintro e x2 ⟨rfl, f2⟩
  replace hL := hL2.frm f2
  replace hF := hF2.trans f2 (fun _ _ e => e)
  replace hB := hB2.frm f2 (fun e => e)
  replace hS := hS2.frm f2 (fun e => e)
  obtain ⟨_, _, _, _, _, _, _⟩ := lk_cells hB
  obtain ⟨_, _, _⟩ := s_cells hS
  clear hL2 hF2 hB2 hS2 z4
  have z4 := hB.frozen 4; have hB2 : Blk (x2.setCell ⟨w.heap.size, 4, none⟩ (.int .i64 1000)) w.heap.size 26 (LkCells d0 d1 v0 v1 1000 sd A n c) := hB.put 4 (.int .i64 1000); have hS2 := hS.away (b := w.heap.size) (by omega) 4 (.int .i64 1000); obtain ⟨_, _, _, _, _, _, _⟩ := lk_cells hB2; obtain ⟨_, _, _⟩ := s_cells hS2
  have hL2 := hL.put hBw 4 (.int .i64 1000)
  have hF2 := hF.put (b := w.heap.size) (fun h => by omega) 4 (.int .i64 1000)
  rcases h with ⟨rfl, rfl, rfl⟩ | ⟨rfl, rfl⟩ | ⟨rfl, rfl, hz⟩
  · have e1 : (t != t) = false := bne_self_eq_false t
    cases hz : lz == 0
    · go_wp2_with fail
      (with_reducible refine (arrive_b hL2 HT3 HG3).mono ?_); rintro e x3 ⟨rfl, f3⟩; replace hF := hF2.trans f3 (fun _ _ e => e); replace hB := hB2.frm f3 (fun e => e); replace hS := hS2.frm f3 (fun e => e); go_wp2_with (first | (go_at_call 11; (with_reducible refine (awake_t _).mono ?_); rintro e x1 ⟨rfl, f1⟩; replace hF := hF.trans f1 (fun _ _ e => e); replace hB := hB.frm f1 (fun e => e); replace hS := hS.frm f1 (fun e => e); obtain ⟨_, _, _, _, _, _, _⟩ := lk_cells hB; obtain ⟨_, _, _⟩ := s_cells hS)); go_ret; exact ⟨rfl, hF⟩
    · go_wp2_with fail
      (with_reducible refine (arrive_b hL2 HT3 HG3).mono ?_); rintro e x3 ⟨rfl, f3⟩; replace hF := hF2.trans f3 (fun _ _ e => e); replace hB := hB2.frm f3 (fun e => e); replace hS := hS2.frm f3 (fun e => e); go_wp2_with (first | (go_at_call 11; (with_reducible refine (awake_t _).mono ?_); rintro e x1 ⟨rfl, f1⟩; replace hF := hF.trans f1 (fun _ _ e => e); replace hB := hB.frm f1 (fun e => e); replace hS := hS.frm f1 (fun e => e); obtain ⟨_, _, _, _, _, _, _⟩ := lk_cells hB; obtain ⟨_, _, _⟩ := s_cells hS)); go_ret; exact ⟨rfl, hF⟩
  · cases hz : lz == 0
    · go_wp2_with fail
      (with_reducible refine (arrive_b hL2 HT3 HG3).mono ?_); rintro e x3 ⟨rfl, f3⟩; replace hF := hF2.trans f3 (fun _ _ e => e); replace hB := hB2.frm f3 (fun e => e); replace hS := hS2.frm f3 (fun e => e); go_wp2_with (first | (go_at_call 11; (with_reducible refine (awake_t _).mono ?_); rintro e x1 ⟨rfl, f1⟩; replace hF := hF.trans f1 (fun _ _ e => e); replace hB := hB.frm f1 (fun e => e); replace hS := hS.frm f1 (fun e => e); obtain ⟨_, _, _, _, _, _, _⟩ := lk_cells hB; obtain ⟨_, _, _⟩ := s_cells hS)); go_ret; exact ⟨rfl, hF⟩
    · go_wp2_with fail
      (with_reducible refine (arrive_b hL2 HT3 HG3).mono ?_); rintro e x3 ⟨rfl, f3⟩; replace hF := hF2.trans f3 (fun _ _ e => e); replace hB := hB2.frm f3 (fun e => e); replace hS := hS2.frm f3 (fun e => e); go_wp2_with (first | (go_at_call 11; (with_reducible refine (awake_t _).mono ?_); rintro e x1 ⟨rfl, f1⟩; replace hF := hF.trans f1 (fun _ _ e => e); replace hB := hB.frm f1 (fun e => e); replace hS := hS.frm f1 (fun e => e); obtain ⟨_, _, _, _, _, _, _⟩ := lk_cells hB; obtain ⟨_, _, _⟩ := s_cells hS)); go_ret; exact ⟨rfl, hF⟩
  · go_wp2_with fail
    (with_reducible refine (arrive_b hL2 HT3 HG3).mono ?_); rintro e x3 ⟨rfl, f3⟩; replace hF := hF2.trans f3 (fun _ _ e => e); replace hB := hB2.frm f3 (fun e => e); replace hS := hS2.frm f3 (fun e => e); go_wp2_with (first | (go_at_call 11; (with_reducible refine (awake_t _).mono ?_); rintro e x1 ⟨rfl, f1⟩; replace hF := hF.trans f1 (fun _ _ e => e); replace hB := hB.frm f1 (fun e => e); replace hS := hS.frm f1 (fun e => e); obtain ⟨_, _, _, _, _, _, _⟩ := lk_cells hB; obtain ⟨_, _, _⟩ := s_cells hS)); go_ret; exact ⟨rfl, hF⟩

theorem linkLosses_walk (_ws : (Lit.int .u64 sd).wf = true) (_wz : (Lit.int .i64 lz).wf = true) (hL : (n : Int) ≤ 100 → LC w A n B cs) :
    Calls Try.prog 8 #[.agg #[.int .i64 d0, .int .i64 d1, .int .i64 v0, .int .i64 v1, .int .i64 ls, .int .u64 sd, .slice A n c], .agg #[.int .i64 s0, .int .i64 s1, .int .i64 s2], .int .i64 lz] w fun e w' => e = .returned (.bool true) ∧ Frm w w' NoB := by
  cases HP : decide ((n : Int) ≤ 100)
  · exact linkLosses_far d0 d1 v0 v1 ls sd A n c s0 s1 s2 lz w HP
  replace hL := hL (of_decide_eq_true HP)
  cases HR : rt s0 s1 s2
  · exact linkLosses_off d0 d1 v0 v1 ls sd A n c B cs s0 s1 s2 lz w HP HR hL rfl (.inl rfl)
  by_cases HE : chk d0 d1 v0 v1 ls cs = 0
  · by_cases h0 : 0 ≤ lz
    · by_cases h1 : lz ≤ ls
      · obtain ⟨hh, _, _, _⟩ := chk_zero HE
        obtain ⟨_, _, _, _, b5⟩ := hd_bounds hh
        have z1 : 0 ≤ lz ∧ lz ≤ 1000 := by omega
        have z2 : (0 : Int) ≤ 1000 ∧ (1000 : Int) ≤ 1000 := by decide
        have a1 := arr_lost (sd := sd) HE HR
        have a2 := arr_lost (sd := sd) (chk_ls HE z1) HR
        have a3 := arr_lost (sd := sd) (chk_ls HE z2) HR
        have e3 : lost sd 1000 s0 s2 = true := by
          unfold lost; rw [decide_eq_true_eq]
          exact Int.emod_lt_of_pos _ (by decide)
        rw [e3] at a3
        have hx : arrB d0 d1 v0 v1 ls sd cs s0 s1 s2 = true ∧ arrB d0 d1 v0 v1 lz sd cs s0 s1 s2 = true ∧ arrT d0 d1 v0 v1 ls sd cs s0 s1 s2 = arrT d0 d1 v0 v1 lz sd cs s0 s1 s2 ∨
            arrB d0 d1 v0 v1 ls sd cs s0 s1 s2 = false ∧ arrB d0 d1 v0 v1 lz sd cs s0 s1 s2 = true ∨ arrB d0 d1 v0 v1 ls sd cs s0 s1 s2 = false ∧ arrB d0 d1 v0 v1 lz sd cs s0 s1 s2 = false ∧ (lz == 0) = false := by
          have hm := Int.emod_nonneg (mixI sd (4 * s2 + 2 * s0)) (show (1000 : Int) ≠ 0 by decide)
          by_cases q1 : mixI sd (4 * s2 + 2 * s0) % 1000 < ls
          · have c1 : lost sd ls s0 s2 = true := by unfold lost; exact decide_eq_true q1
            rw [c1] at a1
            by_cases q2 : mixI sd (4 * s2 + 2 * s0) % 1000 < lz
            · have c2 : lost sd lz s0 s2 = true := by unfold lost; exact decide_eq_true q2
              rw [c2] at a2
              refine .inr (.inr ⟨a1, a2, beq_eq_false_iff_ne.2 ?_⟩)
              intro e
              rw [e] at q2
              exact absurd q2 (Int.not_lt.2 hm)
            · have c2 : lost sd lz s0 s2 = false := by unfold lost; exact decide_eq_false q2
              rw [c2] at a2
              exact .inr (.inl ⟨a1, a2⟩)
          · have c1 : lost sd ls s0 s2 = false := by unfold lost; exact decide_eq_false q1
            have c2 : lost sd lz s0 s2 = false := by unfold lost; exact decide_eq_false (fun h => q1 (Int.lt_of_lt_of_le h h1))
            rw [c1] at a1
            rw [c2] at a2
            obtain ⟨k1, k2⟩ := arr_ls (sd := sd) HE HR z1
            refine .inl ⟨a1, a2, ?_⟩
            rw [arr_yes a1, arr_yes a2, k1, k2]
        exact linkLosses_in d0 d1 v0 v1 ls sd A n c B cs s0 s1 s2 lz w HP HR hL HE h0 h1 rfl rfl rfl rfl a3 rfl hx
      · exact linkLosses_off d0 d1 v0 v1 ls sd A n c B cs s0 s1 s2 lz w HP HR hL HE (.inr ⟨rfl, .inr ⟨rfl, .inr ⟨h0, Int.not_le.1 h1⟩⟩⟩)
    · exact linkLosses_off d0 d1 v0 v1 ls sd A n c B cs s0 s1 s2 lz w HP HR hL HE (.inr ⟨rfl, .inr ⟨rfl, .inl (Int.not_le.1 h0)⟩⟩)
  · exact linkLosses_off d0 d1 v0 v1 ls sd A n c B cs s0 s1 s2 lz w HP HR hL rfl (.inr ⟨rfl, .inl HE⟩)
end
end Go.Proofs.Ytchmaecakjeceaa
