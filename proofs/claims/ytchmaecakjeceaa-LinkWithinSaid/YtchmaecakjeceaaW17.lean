/- LinkWithin returns true: a message that arrives. -/
import Derived.Test.YtchmaecakjeceaaW16
namespace Go.Proofs.Ytchmaecakjeceaa
open Go.RowKit

section
variable (d0 d1 v0 v1 ls sd : Int) (A : Option Addr) (n c B : Nat) (cs : List Chg) (s0 s1 s2 : Int) (w : World)
set_option maxHeartbeats 8000000 in
theorem linkWithin_in {lo hi t d v : Int} {dk : Nat} (HP : Hid (decide ((n : Int) ≤ 100) = true)) (HR : Hid (rt dk s1 s2 = true)) (hL : LC w A n B cs) (HE : Hid (chk d0 d1 v0 v1 ls cs = 0))
    (HG : Hid (arrB d0 d1 v0 v1 ls sd cs dk s1 s2 = true)) (HT : Hid (arrT d0 d1 v0 v1 ls sd cs dk s1 s2 = t)) (HLo : Hid (bLo d0 d1 v0 v1 ls cs dk = lo)) (HHi : Hid (bHi d0 d1 v0 v1 ls cs dk = hi))
    (HD : Hid (delayF d0 d1 v0 v1 ls cs dk s1 = d)) (HV : Hid (v = if dk = 0 then v0 else v1)) (hdk : dk ≤ 1)
    (h1 : 0 ≤ lo) (h2 : lo ≤ hi) (h3 : hi ≤ 20000000000) (g0 : s1 ≤ t) (g1 : lo ≤ t - s1) (g2 : t - s1 ≤ hi) (g3 : d ≤ t - s1) (g4 : t - s1 - d ≤ v)
    (k1 : IntKind.i64.wrap (t - s1) = t - s1) (k2 : IntKind.i64.wrap (t - s1 - d) = t - s1 - d) :
    Calls Try.prog 7 #[.agg #[.int .i64 d0, .int .i64 d1, .int .i64 v0, .int .i64 v1, .int .i64 ls, .int .u64 sd, .slice A n c], .agg #[.int .i64 dk, .int .i64 s1, .int .i64 s2]] w fun e w' => e = .returned (.bool true) ∧ Frm w w' NoB := by
  have hF : Frm w ((w.alloc (.cells (LkCells d0 d1 v0 v1 ls sd A n c) 26)).alloc (.cells #[.int .i64 dk, .int .i64 s1, .int .i64 s2] 41)) NoB := ((Frm.refl w _).alloc _).alloc _
  have hB : Blk ((w.alloc (.cells (LkCells d0 d1 v0 v1 ls sd A n c) 26)).alloc (.cells #[.int .i64 dk, .int .i64 s1, .int .i64 s2] 41)) w.heap.size 26 (LkCells d0 d1 v0 v1 ls sd A n c) := (Blk.new _ _ _).alloc _
  have hS : Blk ((w.alloc (.cells (LkCells d0 d1 v0 v1 ls sd A n c) 26)).alloc (.cells #[.int .i64 dk, .int .i64 s1, .int .i64 s2] 41)) (w.heap.size + 1) 41 #[.int .i64 dk, .int .i64 s1, .int .i64 s2] := Blk.newAt _ _ _ (by simp)
  have hk0 : (0 : Int) ≤ (dk : Int) := Int.natCast_nonneg _
  have hk1 : (dk : Int) < 2 := by omega
  replace hL := (hL.alloc (.cells (LkCells d0 d1 v0 v1 ls sd A n c) 26)).alloc (.cells #[.int .i64 dk, .int .i64 s1, .int .i64 s2] 41)
  go_enter Try.func7, Try.ntmps7
  go_wp2_with (first
    | (go_at_call 10; (with_reducible refine (small_b HP _).mono ?_); rintro e x1 ⟨rfl, f1⟩; replace hL := hL.frm f1; replace hF := hF.trans f1 (fun _ _ e => e); replace hB := hB.frm f1 (fun e => e); replace hS := hS.frm f1 (fun e => e); obtain ⟨_, _, _, _, _, _, _⟩ := lk_cells hB; obtain ⟨_, _, _⟩ := s_cells hS)
    | (go_at_call 24; (with_reducible refine (lright_b HR _).mono ?_); rintro e x1 ⟨rfl, rfl⟩)
    | (go_at_call 22; (with_reducible refine (arrive_b hL HT HG).mono ?_); rintro e x1 ⟨rfl, f1⟩; replace hL := hL.frm f1; replace hF := hF.trans f1 (fun _ _ e => e); replace hB := hB.frm f1 (fun e => e); replace hS := hS.frm f1 (fun e => e); obtain ⟨_, _, _, _, _, _, _⟩ := lk_cells hB; obtain ⟨_, _, _⟩ := s_cells hS)
    | (go_at_call 12; (with_reducible refine (check_c hL HE).mono ?_); rintro e x1 ⟨rfl, f1⟩; replace hL := hL.frm f1; replace hF := hF.trans f1 (fun _ _ e => e); replace hB := hB.frm f1 (fun e => e); replace hS := hS.frm f1 (fun e => e); obtain ⟨_, _, _, _, _, _, _⟩ := lk_cells hB; obtain ⟨_, _, _⟩ := s_cells hS)
    | (go_at_call 20; (with_reducible refine (bounds_b hL HLo HHi).mono ?_); rintro e xb ⟨rfl, f1⟩; have hI : Blk (xb.alloc (.cells #[.int .i64 lo, .int .i64 hi] 35)) xb.heap.size 35 #[.int .i64 lo, .int .i64 hi] := Blk.new _ _ _; replace hL := (hL.frm f1).alloc (.cells #[.int .i64 lo, .int .i64 hi] 35); replace hF := (hF.trans f1 (fun _ _ e => e)).alloc (.cells #[.int .i64 lo, .int .i64 hi] 35); replace hB := (hB.frm f1 (fun e => e)).alloc (.cells #[.int .i64 lo, .int .i64 hi] 35); replace hS := (hS.frm f1 (fun e => e)).alloc (.cells #[.int .i64 lo, .int .i64 hi] 35); obtain ⟨_, _, _, _, _, _, _⟩ := lk_cells hB; obtain ⟨_, _, _⟩ := s_cells hS)
    | (go_at_call 14; (with_reducible refine (delay_b hL HD).mono ?_); rintro e x1 ⟨rfl, f1⟩; replace hL := hL.frm f1; replace hF := hF.trans f1 (fun _ _ e => e); replace hB := hB.frm f1 (fun e => e); replace hS := hS.frm f1 (fun e => e); replace hI := hI.frm f1 (fun e => e); obtain ⟨_, _, _, _, _, _, _⟩ := lk_cells hB; obtain ⟨_, _, _⟩ := s_cells hS))
  have i0 : x1.cell? ⟨xb.heap.size, 0, none⟩ = some (.int .i64 lo) := hI.cellIs rfl
  have i1 : x1.cell? ⟨xb.heap.size, 1, none⟩ = some (.int .i64 hi) := hI.cellIs rfl
  obtain ⟨p0, p1, p2⟩ := s_cells hS
  have cd : x1.cell? ⟨w.heap.size, 2 + dk, none⟩ = some (.int .i64 v) := by
    obtain ⟨c0, c1, c2, c3, c4, c5, c6⟩ := lk_cells hB
    rcases Nat.lt_or_ge dk 1 with h | h
    · obtain rfl : dk = 0 := by omega
      rw [HV.out]; exact c2
    · obtain rfl : dk = 1 := by omega
      rw [HV.out]; exact c3
  go_region_held3 (fun w' => w'.cell? ⟨w.heap.size + 1, 0, none⟩ = some (.int .i64 dk) ∧ w'.cell? ⟨w.heap.size + 1, 1, none⟩ = some (.int .i64 s1) ∧ w'.cell? ⟨xb.heap.size, 0, none⟩ = some (.int .i64 lo) ∧ w'.cell? ⟨xb.heap.size, 1, none⟩ = some (.int .i64 hi) ∧ w'.cell? ⟨w.heap.size, 2 + dk, none⟩ = some (.int .i64 v)) (first | go_keep | exact ⟨p0, p1, i0, i1, cd⟩)
    (first
      | (go_at_call 11; (with_reducible refine (awake_t _).mono ?_); rintro e x2 ⟨rfl, f1⟩; replace hF := hF.drew.trans f1 (fun _ _ e => e); replace hS := hS.drew.frm f1 (fun e => e); replace hI := hI.drew.frm f1 (fun e => e); replace cd := (f1.cell (p := ⟨w.heap.size, 2 + dk, none⟩) hB.drew.lt (fun e => e)).trans cd; replace i0 := hI.cellIs (i := 0) (v := .int .i64 lo) rfl; replace i1 := hI.cellIs (i := 1) (v := .int .i64 hi) rfl; replace p0 := (s_cells hS).1; replace p1 := (s_cells hS).2.1))
  go_wp2
  go_ret
  exact ⟨rfl, hF⟩

theorem linkWithin_walk (_ws : (Lit.int .u64 sd).wf = true) (hL : (n : Int) ≤ 100 → LC w A n B cs) :
    Calls Try.prog 7 #[.agg #[.int .i64 d0, .int .i64 d1, .int .i64 v0, .int .i64 v1, .int .i64 ls, .int .u64 sd, .slice A n c], .agg #[.int .i64 s0, .int .i64 s1, .int .i64 s2]] w fun e w' => e = .returned (.bool true) ∧ Frm w w' NoB := by
  cases HP : decide ((n : Int) ≤ 100)
  · exact linkWithin_far d0 d1 v0 v1 ls sd A n c s0 s1 s2 w HP
  cases HR : rt s0 s1 s2
  · exact linkWithin_odd d0 d1 v0 v1 ls sd A n c s0 s1 s2 w HP HR
  replace hL := hL (of_decide_eq_true HP)
  by_cases HE : chk d0 d1 v0 v1 ls cs = 0
  · obtain ⟨f1, f2, f3, f4, f5, f6⟩ := within_facts (sd := sd) HE HR
    obtain ⟨r1, r2, r3⟩ := rt_iff.1 HR
    cases HG : arrB d0 d1 v0 v1 ls sd cs s0 s1 s2
    · have hl := arr_lost (sd := sd) HE HR
      rw [HG] at hl
      have hl2 : lost sd ls s0 s2 = true := by
        cases h : lost sd ls s0 s2
        · rw [h] at hl; cases hl
        · rfl
      exact linkWithin_lost d0 d1 v0 v1 ls sd A n c B cs s0 s1 s2 w HP HR hL HE HG (arr_no HG) rfl rfl f1 (by omega) f4 (lost_pos hl2)
    · have ht := arr_yes HG
      obtain ⟨dk, rfl⟩ := Int.eq_ofNat_of_zero_le r1.1
      rw [sel_eq] at f6
      have b0 := delayF_bounds d0 d1 v0 v1 ls cs dk s1
      have b1 := noiseF_bounds d0 d1 v0 v1 ls sd cs dk s2
      refine linkWithin_in d0 d1 v0 v1 ls sd A n c B cs s1 s2 w HP HR hL HE HG ht rfl rfl rfl rfl (by omega) f1 ?_ f4 ?_ ?_ ?_ ?_ ?_ (IntWalk.i64_in _ ?_) (IntWalk.i64_in _ ?_)
      all_goals
        clear ht HG HE HR HP hL
        generalize delayF d0 d1 v0 v1 ls cs dk s1 = D at *
        generalize noiseF d0 d1 v0 v1 ls sd cs dk s2 = N at *
        generalize bLo d0 d1 v0 v1 ls cs dk = L at *
        generalize bHi d0 d1 v0 v1 ls cs dk = U at *
        omega
  · exact linkWithin_bad d0 d1 v0 v1 ls sd A n c B cs s0 s1 s2 w HP HR hL rfl HE
end
end Go.Proofs.Ytchmaecakjeceaa
