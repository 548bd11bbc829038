/- LinkSources returns true. -/
import Derived.Test.YtchmaecakjeceaaW16
namespace Go.Proofs.Ytchmaecakjeceaa
open Go.RowKit

section
variable (d0 d1 v0 v1 ls sd : Int) (A : Option Addr) (n c B : Nat) (cs : List Chg) (s0 s1 s2 : Int) (w : World)
set_option maxHeartbeats 8000000 in
theorem linkSources_far (HP : Hid (decide ((n : Int) ≤ 100) = false)) :
    Calls Try.prog 9 #[.agg #[.int .i64 d0, .int .i64 d1, .int .i64 v0, .int .i64 v1, .int .i64 ls, .int .u64 sd, .slice A n c], .agg #[.int .i64 s0, .int .i64 s1, .int .i64 s2]] w fun e w' => e = .returned (.bool true) ∧ Frm w w' NoB := by
  have hF : Frm w ((w.alloc (.cells (LkCells d0 d1 v0 v1 ls sd A n c) 26)).alloc (.cells #[.int .i64 s0, .int .i64 s1, .int .i64 s2] 41)) NoB := ((Frm.refl w _).alloc _).alloc _
  have hB : Blk ((w.alloc (.cells (LkCells d0 d1 v0 v1 ls sd A n c) 26)).alloc (.cells #[.int .i64 s0, .int .i64 s1, .int .i64 s2] 41)) w.heap.size 26 (LkCells d0 d1 v0 v1 ls sd A n c) := (Blk.new _ _ _).alloc _
  have hS : Blk ((w.alloc (.cells (LkCells d0 d1 v0 v1 ls sd A n c) 26)).alloc (.cells #[.int .i64 s0, .int .i64 s1, .int .i64 s2] 41)) (w.heap.size + 1) 41 #[.int .i64 s0, .int .i64 s1, .int .i64 s2] := Blk.newAt _ _ _ (by simp)
  go_enter Try.func9, Try.ntmps9
  go_wp2_with (first | (go_at_call 10; (with_reducible refine (small_b HP _).mono ?_); rintro e x1 ⟨rfl, f1⟩; replace hF := hF.trans f1 (fun _ _ e => e); replace hB := hB.frm f1 (fun e => e); replace hS := hS.frm f1 (fun e => e); obtain ⟨_, _, _, _, _, _, _⟩ := lk_cells hB; obtain ⟨_, _, _⟩ := s_cells hS) | (go_at_call 11; (with_reducible refine (awake_t _).mono ?_); rintro e x1 ⟨rfl, f1⟩; replace hF := hF.trans f1 (fun _ _ e => e); replace hB := hB.frm f1 (fun e => e); replace hS := hS.frm f1 (fun e => e); obtain ⟨_, _, _, _, _, _, _⟩ := lk_cells hB; obtain ⟨_, _, _⟩ := s_cells hS))
  go_ret
  exact ⟨rfl, hF⟩
set_option maxHeartbeats 8000000 in
theorem linkSources_off {q : Bool} {e0 : Int} (HP : Hid (decide ((n : Int) ≤ 100) = true)) (HR : Hid (rt s0 s1 s2 = q)) (hL : LC w A n B cs) (HE : Hid (chk d0 d1 v0 v1 ls cs = e0))
    (h : q = false ∨ q = true ∧ e0 ≠ 0) :
    Calls Try.prog 9 #[.agg #[.int .i64 d0, .int .i64 d1, .int .i64 v0, .int .i64 v1, .int .i64 ls, .int .u64 sd, .slice A n c], .agg #[.int .i64 s0, .int .i64 s1, .int .i64 s2]] w fun e w' => e = .returned (.bool true) ∧ Frm w w' NoB := by
  have hF : Frm w ((w.alloc (.cells (LkCells d0 d1 v0 v1 ls sd A n c) 26)).alloc (.cells #[.int .i64 s0, .int .i64 s1, .int .i64 s2] 41)) NoB := ((Frm.refl w _).alloc _).alloc _
  have hB : Blk ((w.alloc (.cells (LkCells d0 d1 v0 v1 ls sd A n c) 26)).alloc (.cells #[.int .i64 s0, .int .i64 s1, .int .i64 s2] 41)) w.heap.size 26 (LkCells d0 d1 v0 v1 ls sd A n c) := (Blk.new _ _ _).alloc _
  have hS : Blk ((w.alloc (.cells (LkCells d0 d1 v0 v1 ls sd A n c) 26)).alloc (.cells #[.int .i64 s0, .int .i64 s1, .int .i64 s2] 41)) (w.heap.size + 1) 41 #[.int .i64 s0, .int .i64 s1, .int .i64 s2] := Blk.newAt _ _ _ (by simp)
  replace hL := (hL.alloc (.cells (LkCells d0 d1 v0 v1 ls sd A n c) 26)).alloc (.cells #[.int .i64 s0, .int .i64 s1, .int .i64 s2] 41)
  rcases h with rfl | ⟨rfl, h⟩
  · go_enter Try.func9, Try.ntmps9
    go_wp2_with (first | (go_at_call 10; (with_reducible refine (small_b HP _).mono ?_); rintro e x1 ⟨rfl, f1⟩; replace hF := hF.trans f1 (fun _ _ e => e); replace hB := hB.frm f1 (fun e => e); replace hS := hS.frm f1 (fun e => e); obtain ⟨_, _, _, _, _, _, _⟩ := lk_cells hB; obtain ⟨_, _, _⟩ := s_cells hS) | (go_at_call 24; (with_reducible refine (lright_b HR _).mono ?_); rintro e x1 ⟨rfl, rfl⟩) | (go_at_call 11; (with_reducible refine (awake_t _).mono ?_); rintro e x1 ⟨rfl, f1⟩; replace hF := hF.trans f1 (fun _ _ e => e); replace hB := hB.frm f1 (fun e => e); replace hS := hS.frm f1 (fun e => e); obtain ⟨_, _, _, _, _, _, _⟩ := lk_cells hB; obtain ⟨_, _, _⟩ := s_cells hS))
    go_ret
    exact ⟨rfl, hF⟩
  · have hb : (e0 != 0) = true := by rw [bne_iff_ne]; exact h
    clear h
    go_enter Try.func9, Try.ntmps9
    go_wp2_with (first | (go_at_call 10; (with_reducible refine (small_b HP _).mono ?_); rintro e x1 ⟨rfl, f1⟩; replace hL := hL.frm f1; replace hF := hF.trans f1 (fun _ _ e => e); replace hB := hB.frm f1 (fun e => e); replace hS := hS.frm f1 (fun e => e); obtain ⟨_, _, _, _, _, _, _⟩ := lk_cells hB; obtain ⟨_, _, _⟩ := s_cells hS) | (go_at_call 24; (with_reducible refine (lright_b HR _).mono ?_); rintro e x1 ⟨rfl, rfl⟩) | (go_at_call 12; (with_reducible refine (check_c hL HE).mono ?_); rintro e x1 ⟨rfl, f1⟩; replace hL := hL.frm f1; replace hF := hF.trans f1 (fun _ _ e => e); replace hB := hB.frm f1 (fun e => e); replace hS := hS.frm f1 (fun e => e); obtain ⟨_, _, _, _, _, _, _⟩ := lk_cells hB; obtain ⟨_, _, _⟩ := s_cells hS) | (go_at_call 11; (with_reducible refine (awake_t _).mono ?_); rintro e x1 ⟨rfl, f1⟩; replace hF := hF.trans f1 (fun _ _ e => e); replace hB := hB.frm f1 (fun e => e); replace hS := hS.frm f1 (fun e => e); obtain ⟨_, _, _, _, _, _, _⟩ := lk_cells hB; obtain ⟨_, _, _⟩ := s_cells hS))
    go_ret
    exact ⟨rfl, hF⟩

set_option maxHeartbeats 8000000 in
set_option linter.unusedSimpArgs false in
theorem linkSources_in {g : Bool} {t v d N X0 X1 : Int} {dk : Nat} (HP : Hid (decide ((n : Int) ≤ 100) = true)) (HR : Hid (rt dk s1 s2 = true)) (hL : LC w A n B cs) (HE : Hid (chk d0 d1 v0 v1 ls cs = 0))
    (HV : Hid (v = if dk = 0 then v0 else v1)) (hdk : dk ≤ 1) (hv : 0 ≤ v ∧ v ≤ 10000000000) (hls : 0 ≤ ls ∧ ls ≤ 1000) (hs2 : 0 ≤ s2 ∧ s2 ≤ 1099511627776)
    (HG : Hid (arrB d0 d1 v0 v1 ls sd cs dk s1 s2 = g)) (HT : Hid (arrT d0 d1 v0 v1 ls sd cs dk s1 s2 = t))
    (HM0 : Hid (∀ w, Calls Try.prog 25 #[.int .u64 sd, .int .u64 (4 * s2 + 2 * dk)] w fun e w' => e = .returned (.int .u64 X0) ∧ Frm w w' NoB))
    (HM1 : Hid (∀ w, Calls Try.prog 25 #[.int .u64 sd, .int .u64 (4 * s2 + 2 * dk + 1)] w fun e w' => e = .returned (.int .u64 X1) ∧ Frm w w' NoB))
    (HN : Hid (noiseF d0 d1 v0 v1 ls sd cs dk s2 = N)) (HD : Hid (delayF d0 d1 v0 v1 ls cs dk s1 = d))
    (hX0 : 0 ≤ X0) (hX1 : 0 ≤ X1) (hN : IntKind.i64.wrap (X1 % (v + 1)) = N) (w1 : IntKind.i64.wrap (s1 + d) = s1 + d) (w2 : IntKind.i64.wrap (s1 + d + N) = s1 + d + N)
    (h : g = true ∧ ls ≤ X0 % 1000 ∧ t = s1 + d + N ∨ g = false ∧ X0 % 1000 < ls) :
    Calls Try.prog 9 #[.agg #[.int .i64 d0, .int .i64 d1, .int .i64 v0, .int .i64 v1, .int .i64 ls, .int .u64 sd, .slice A n c], .agg #[.int .i64 dk, .int .i64 s1, .int .i64 s2]] w fun e w' => e = .returned (.bool true) ∧ Frm w w' NoB := by
  have hF : Frm w ((w.alloc (.cells (LkCells d0 d1 v0 v1 ls sd A n c) 26)).alloc (.cells #[.int .i64 dk, .int .i64 s1, .int .i64 s2] 41)) NoB := ((Frm.refl w _).alloc _).alloc _
  have hB : Blk ((w.alloc (.cells (LkCells d0 d1 v0 v1 ls sd A n c) 26)).alloc (.cells #[.int .i64 dk, .int .i64 s1, .int .i64 s2] 41)) w.heap.size 26 (LkCells d0 d1 v0 v1 ls sd A n c) := (Blk.new _ _ _).alloc _
  have hS : Blk ((w.alloc (.cells (LkCells d0 d1 v0 v1 ls sd A n c) 26)).alloc (.cells #[.int .i64 dk, .int .i64 s1, .int .i64 s2] 41)) (w.heap.size + 1) 41 #[.int .i64 dk, .int .i64 s1, .int .i64 s2] := Blk.newAt _ _ _ (by simp)
  have hk0 : (0 : Int) ≤ (dk : Int) := Int.natCast_nonneg _
  have hk1 : (dk : Int) < 2 := by omega
  have r1 : IntKind.i64.wrap (v + 1) = v + 1 := IntWalk.i64_in _ (by omega)
  have r2 : IntKind.u64.wrap (v + 1) = v + 1 := IntWalk.u64_in _ (by omega)
  have r3 : ¬ v + 1 = 0 := by omega
  have r4 : X1.tmod (v + 1) = X1 % (v + 1) := Int.tmod_eq_emod_of_nonneg hX1
  have r5 : IntKind.i64.wrap (4 * s2) = 4 * s2 := IntWalk.i64_in _ (by omega)
  have r6 : IntKind.i64.wrap (2 * (dk : Int)) = 2 * dk := IntWalk.i64_in _ (by omega)
  have r7 : IntKind.i64.wrap (4 * s2 + 2 * (dk : Int)) = 4 * s2 + 2 * dk := IntWalk.i64_in _ (by omega)
  have r8 : IntKind.u64.wrap (4 * s2 + 2 * (dk : Int)) = 4 * s2 + 2 * dk := IntWalk.u64_in _ (by omega)
  have r9 : IntKind.u64.wrap (4 * s2 + 2 * (dk : Int) + 1) = 4 * s2 + 2 * dk + 1 := IntWalk.u64_in _ (by omega)
  have r10 : IntKind.u64.wrap ls = ls := IntWalk.u64_in _ (by omega)
  have r11 : X0.tmod 1000 = X0 % 1000 := Int.tmod_eq_emod_of_nonneg hX0
  replace hL := (hL.alloc (.cells (LkCells d0 d1 v0 v1 ls sd A n c) 26)).alloc (.cells #[.int .i64 dk, .int .i64 s1, .int .i64 s2] 41)
  go_enter Try.func9, Try.ntmps9
  go_wp2_with (first
    | (go_at_call 10; (with_reducible refine (small_b HP _).mono ?_); rintro e x1 ⟨rfl, f1⟩; replace hL := hL.frm f1; replace hF := hF.trans f1 (fun _ _ e => e); replace hB := hB.frm f1 (fun e => e); replace hS := hS.frm f1 (fun e => e); obtain ⟨_, _, _, _, _, _, _⟩ := lk_cells hB; obtain ⟨_, _, _⟩ := s_cells hS)
    | (go_at_call 24; (with_reducible refine (lright_b HR _).mono ?_); rintro e x1 ⟨rfl, rfl⟩)
    | (go_at_call 12; (with_reducible refine (check_c hL HE).mono ?_); rintro e x1 ⟨rfl, f1⟩; replace hL := hL.frm f1; replace hF := hF.trans f1 (fun _ _ e => e); replace hB := hB.frm f1 (fun e => e); replace hS := hS.frm f1 (fun e => e); obtain ⟨_, _, _, _, _, _, _⟩ := lk_cells hB; obtain ⟨_, _, _⟩ := s_cells hS))
  obtain ⟨p0, p1, p2⟩ := s_cells hS
  have c5 := (lk_cells hB).2.2.2.2.2.1
  have hlB := hB.lt
  have cd : x1.cell? ⟨w.heap.size, 2 + dk, none⟩ = some (.int .i64 v) := by
    obtain ⟨c0, c1, c2, c3, c4, c5, c6⟩ := lk_cells hB
    rcases Nat.lt_or_ge dk 1 with h | h
    · obtain rfl : dk = 0 := by omega
      rw [HV.out]; exact c2
    · obtain rfl : dk = 1 := by omega
      rw [HV.out]; exact c3
  go_region_held3 (fun w' => w'.cell? ⟨w.heap.size, 5, none⟩ = some (.int .u64 sd) ∧ w'.cell? ⟨w.heap.size + 1, 0, none⟩ = some (.int .i64 dk) ∧ w'.cell? ⟨w.heap.size, 2 + dk, none⟩ = some (.int .i64 v)) (first | go_keep | exact ⟨c5, p0, cd⟩)
    (first | (go_at_call 25; (with_reducible refine (HM1.out _).mono ?_); rintro e x2 ⟨rfl, f1⟩; replace hL := hL.drew.frm f1; replace hF := hF.drew.trans f1 (fun _ _ e => e); replace cd := (f1.cell (p := ⟨w.heap.size, 2 + dk, none⟩) hB.drew.lt (fun e => e)).trans cd; replace hB := hB.drew.frm f1 (fun e => e); replace hS := hS.drew.frm f1 (fun e => e); replace p0 := (s_cells hS).1; replace c5 := (lk_cells hB).2.2.2.2.2.1))
  obtain ⟨_, _, _, _, _, _, _⟩ := lk_cells hB
  obtain ⟨_, _, _⟩ := s_cells hS
  go_wp2_with (first
    | (go_at_call 22; (with_reducible refine (arrive_b hL HT HG).mono ?_); rintro e x1 ⟨rfl, f1⟩; replace hL := hL.frm f1; replace hF := hF.trans f1 (fun _ _ e => e); replace hB := hB.frm f1 (fun e => e); replace hS := hS.frm f1 (fun e => e); obtain ⟨_, _, _, _, _, _, _⟩ := lk_cells hB; obtain ⟨_, _, _⟩ := s_cells hS))
  have e1 : (N != N) = false := bne_self_eq_false N
  rcases h with ⟨rfl, h1, rfl⟩ | ⟨rfl, h1⟩
  · have e2 : (s1 + d + N == s1 + d + N) = true := beq_self_eq_true _
    go_region_held3 (fun w' => w'.cell? ⟨w.heap.size, 0, none⟩ = some (.int .i64 d0) ∧ w'.cell? ⟨w.heap.size, 1, none⟩ = some (.int .i64 d1) ∧ w'.cell? ⟨w.heap.size, 2, none⟩ = some (.int .i64 v0) ∧ w'.cell? ⟨w.heap.size, 3, none⟩ = some (.int .i64 v1) ∧ w'.cell? ⟨w.heap.size, 4, none⟩ = some (.int .i64 ls) ∧ w'.cell? ⟨w.heap.size, 5, none⟩ = some (.int .u64 sd) ∧ w'.cell? ⟨w.heap.size, 6, none⟩ = some (.slice A n c) ∧ w'.cell? ⟨w.heap.size + 1, 0, none⟩ = some (.int .i64 dk) ∧ w'.cell? ⟨w.heap.size + 1, 1, none⟩ = some (.int .i64 s1) ∧ w'.cell? ⟨w.heap.size + 1, 2, none⟩ = some (.int .i64 s2)) (first | go_keep | exact ⟨(lk_cells hB).1, (lk_cells hB).2.1, (lk_cells hB).2.2.1, (lk_cells hB).2.2.2.1, (lk_cells hB).2.2.2.2.1, (lk_cells hB).2.2.2.2.2.1, (lk_cells hB).2.2.2.2.2.2, (s_cells hS).1, (s_cells hS).2.1, (s_cells hS).2.2⟩) (first | (go_at_call 18; (with_reducible refine (noise_b (by first | exact hL | exact hL.drew) HN).mono ?_); rintro e x1 ⟨rfl, f1⟩; (first | (replace hL := hL.drew.frm f1; replace hF := hF.drew.trans f1 (fun _ _ e => e); replace hB := hB.drew.frm f1 (fun e => e); replace hS := hS.drew.frm f1 (fun e => e)) | (replace hL := hL.frm f1; replace hF := hF.trans f1 (fun _ _ e => e); replace hB := hB.frm f1 (fun e => e); replace hS := hS.frm f1 (fun e => e)))) | (go_at_call 25; (with_reducible refine (HM0.out _).mono ?_); rintro e x1 ⟨rfl, f1⟩; (first | (replace hL := hL.drew.frm f1; replace hF := hF.drew.trans f1 (fun _ _ e => e); replace hB := hB.drew.frm f1 (fun e => e); replace hS := hS.drew.frm f1 (fun e => e)) | (replace hL := hL.frm f1; replace hF := hF.trans f1 (fun _ _ e => e); replace hB := hB.frm f1 (fun e => e); replace hS := hS.frm f1 (fun e => e)))))
    go_wp2_with fail
    go_region_held3 (fun w' => w'.cell? ⟨w.heap.size, 0, none⟩ = some (.int .i64 d0) ∧ w'.cell? ⟨w.heap.size, 1, none⟩ = some (.int .i64 d1) ∧ w'.cell? ⟨w.heap.size, 2, none⟩ = some (.int .i64 v0) ∧ w'.cell? ⟨w.heap.size, 3, none⟩ = some (.int .i64 v1) ∧ w'.cell? ⟨w.heap.size, 4, none⟩ = some (.int .i64 ls) ∧ w'.cell? ⟨w.heap.size, 5, none⟩ = some (.int .u64 sd) ∧ w'.cell? ⟨w.heap.size, 6, none⟩ = some (.slice A n c) ∧ w'.cell? ⟨w.heap.size + 1, 0, none⟩ = some (.int .i64 dk) ∧ w'.cell? ⟨w.heap.size + 1, 1, none⟩ = some (.int .i64 s1) ∧ w'.cell? ⟨w.heap.size + 1, 2, none⟩ = some (.int .i64 s2)) (first | go_keep | exact ⟨(lk_cells hB).1, (lk_cells hB).2.1, (lk_cells hB).2.2.1, (lk_cells hB).2.2.2.1, (lk_cells hB).2.2.2.2.1, (lk_cells hB).2.2.2.2.2.1, (lk_cells hB).2.2.2.2.2.2, (s_cells hS).1, (s_cells hS).2.1, (s_cells hS).2.2⟩)
      (first
        | (go_at_call 14; (with_reducible refine (delay_b (by first | exact hL | exact hL.drew) HD).mono ?_); rintro e x1 ⟨rfl, f1⟩; (first | (replace hL := hL.drew.frm f1; replace hF := hF.drew.trans f1 (fun _ _ e => e); replace hB := hB.drew.frm f1 (fun e => e); replace hS := hS.drew.frm f1 (fun e => e)) | (replace hL := hL.frm f1; replace hF := hF.trans f1 (fun _ _ e => e); replace hB := hB.frm f1 (fun e => e); replace hS := hS.frm f1 (fun e => e))))
        | (go_at_call 11; (with_reducible refine (awake_t _).mono ?_); rintro e x1 ⟨rfl, f1⟩; (first | (replace hL := hL.drew.frm f1; replace hF := hF.drew.trans f1 (fun _ _ e => e); replace hB := hB.drew.frm f1 (fun e => e); replace hS := hS.drew.frm f1 (fun e => e)) | (replace hL := hL.frm f1; replace hF := hF.trans f1 (fun _ _ e => e); replace hB := hB.frm f1 (fun e => e); replace hS := hS.frm f1 (fun e => e)))))
    go_wp2
    go_ret
    exact ⟨rfl, hF⟩
  · go_region_held3 (fun w' => w'.cell? ⟨w.heap.size, 0, none⟩ = some (.int .i64 d0) ∧ w'.cell? ⟨w.heap.size, 1, none⟩ = some (.int .i64 d1) ∧ w'.cell? ⟨w.heap.size, 2, none⟩ = some (.int .i64 v0) ∧ w'.cell? ⟨w.heap.size, 3, none⟩ = some (.int .i64 v1) ∧ w'.cell? ⟨w.heap.size, 4, none⟩ = some (.int .i64 ls) ∧ w'.cell? ⟨w.heap.size, 5, none⟩ = some (.int .u64 sd) ∧ w'.cell? ⟨w.heap.size, 6, none⟩ = some (.slice A n c) ∧ w'.cell? ⟨w.heap.size + 1, 0, none⟩ = some (.int .i64 dk) ∧ w'.cell? ⟨w.heap.size + 1, 1, none⟩ = some (.int .i64 s1) ∧ w'.cell? ⟨w.heap.size + 1, 2, none⟩ = some (.int .i64 s2)) (first | go_keep | exact ⟨(lk_cells hB).1, (lk_cells hB).2.1, (lk_cells hB).2.2.1, (lk_cells hB).2.2.2.1, (lk_cells hB).2.2.2.2.1, (lk_cells hB).2.2.2.2.2.1, (lk_cells hB).2.2.2.2.2.2, (s_cells hS).1, (s_cells hS).2.1, (s_cells hS).2.2⟩) (first | (go_at_call 18; (with_reducible refine (noise_b (by first | exact hL | exact hL.drew) HN).mono ?_); rintro e x1 ⟨rfl, f1⟩; (first | (replace hL := hL.drew.frm f1; replace hF := hF.drew.trans f1 (fun _ _ e => e); replace hB := hB.drew.frm f1 (fun e => e); replace hS := hS.drew.frm f1 (fun e => e)) | (replace hL := hL.frm f1; replace hF := hF.trans f1 (fun _ _ e => e); replace hB := hB.frm f1 (fun e => e); replace hS := hS.frm f1 (fun e => e)))) | (go_at_call 25; (with_reducible refine (HM0.out _).mono ?_); rintro e x1 ⟨rfl, f1⟩; (first | (replace hL := hL.drew.frm f1; replace hF := hF.drew.trans f1 (fun _ _ e => e); replace hB := hB.drew.frm f1 (fun e => e); replace hS := hS.drew.frm f1 (fun e => e)) | (replace hL := hL.frm f1; replace hF := hF.trans f1 (fun _ _ e => e); replace hB := hB.frm f1 (fun e => e); replace hS := hS.frm f1 (fun e => e)))))
    go_wp2_with fail
    refine wp_region_held_drew (S := (fun w' => w'.cell? ⟨w.heap.size, 0, none⟩ = some (.int .i64 d0) ∧ w'.cell? ⟨w.heap.size, 1, none⟩ = some (.int .i64 d1) ∧ w'.cell? ⟨w.heap.size, 2, none⟩ = some (.int .i64 v0) ∧ w'.cell? ⟨w.heap.size, 3, none⟩ = some (.int .i64 v1) ∧ w'.cell? ⟨w.heap.size, 4, none⟩ = some (.int .i64 ls) ∧ w'.cell? ⟨w.heap.size, 5, none⟩ = some (.int .u64 sd) ∧ w'.cell? ⟨w.heap.size, 6, none⟩ = some (.slice A n c) ∧ w'.cell? ⟨w.heap.size + 1, 0, none⟩ = some (.int .i64 dk) ∧ w'.cell? ⟨w.heap.size + 1, 1, none⟩ = some (.int .i64 s1) ∧ w'.cell? ⟨w.heap.size + 1, 2, none⟩ = some (.int .i64 s2))) (by kernel_rfl) ⟨(lk_cells hB).1, (lk_cells hB).2.1, (lk_cells hB).2.2.1, (lk_cells hB).2.2.2.1, (lk_cells hB).2.2.2.2.1, (lk_cells hB).2.2.2.2.2.1, (lk_cells hB).2.2.2.2.2.2, (s_cells hS).1, (s_cells hS).2.1, (s_cells hS).2.2⟩ (fun hHeld => ?_)
    (refine takeH 0 82 ?_ (by kernel_rfl) (by kernel_rfl) (by kernel_rfl) (by kernel_rfl) (by kernel_rfl) (fun _ _ _ h => h) ?_ (by assumption) ?_; rotate_left; (intro oi ho w hSw; simp only [List.getElem?_toArray, List.getElem?_cons_succ, List.getElem?_cons_zero, Option.some.injEq] at ho; subst ho; (try dsimp only at hSw); go_simp; try (with_reducible rfl)); simp only [List.set_cons_zero, List.set_cons_succ])
    (refine takeH 1 83 ?_ (by kernel_rfl) (by kernel_rfl) (by kernel_rfl) (by kernel_rfl) (by kernel_rfl) (fun _ _ _ h => h) ?_ (by assumption) ?_; rotate_left; (intro oi ho w hSw; simp only [List.getElem?_toArray, List.getElem?_cons_succ, List.getElem?_cons_zero, Option.some.injEq] at ho; subst ho; (try dsimp only at hSw); go_simp; try (with_reducible rfl)); simp only [List.set_cons_zero, List.set_cons_succ])
    (refine takeH 2 84 ?_ (by kernel_rfl) (by kernel_rfl) (by kernel_rfl) (by kernel_rfl) (by kernel_rfl) (fun _ _ _ h => h) ?_ (by assumption) ?_; rotate_left; (intro oi ho w hSw; simp only [List.getElem?_toArray, List.getElem?_cons_succ, List.getElem?_cons_zero, Option.some.injEq] at ho; subst ho; (try dsimp only at hSw); go_simp; try (with_reducible rfl)); simp only [List.set_cons_zero, List.set_cons_succ])
    (refine skipH 3 85 (by kernel_rfl) (by kernel_rfl) (by kernel_rfl) (by kernel_rfl) (by kernel_rfl) (fun _ _ _ h => h) (by assumption) ?_; simp only [List.set_cons_zero, List.set_cons_succ])
    (refine skipH 4 86 (by kernel_rfl) (by kernel_rfl) (by kernel_rfl) (by kernel_rfl) (by kernel_rfl) (fun _ _ _ h => h) (by assumption) ?_; simp only [List.set_cons_zero, List.set_cons_succ])
    (refine skipH 5 87 (by kernel_rfl) (by kernel_rfl) (by kernel_rfl) (by kernel_rfl) (by kernel_rfl) (fun _ _ _ h => h) (by assumption) ?_; simp only [List.set_cons_zero, List.set_cons_succ])
    (refine skipH 6 88 (by kernel_rfl) (by kernel_rfl) (by kernel_rfl) (by kernel_rfl) (by kernel_rfl) (fun _ _ _ h => h) (by assumption) ?_; simp only [List.set_cons_zero, List.set_cons_succ])
    (refine skipH 7 89 (by kernel_rfl) (by kernel_rfl) (by kernel_rfl) (by kernel_rfl) (by kernel_rfl) (fun _ _ _ h => h) (by assumption) ?_; simp only [List.set_cons_zero, List.set_cons_succ])
    (refine skipH 8 90 (by kernel_rfl) (by kernel_rfl) (by kernel_rfl) (by kernel_rfl) (by kernel_rfl) (fun _ _ _ h => h) (by assumption) ?_; simp only [List.set_cons_zero, List.set_cons_succ])
    (refine skipH 9 91 (by kernel_rfl) (by kernel_rfl) (by kernel_rfl) (by kernel_rfl) (by kernel_rfl) (fun _ _ _ h => h) (by assumption) ?_; simp only [List.set_cons_zero, List.set_cons_succ])
    (refine skipH 10 92 (by kernel_rfl) (by kernel_rfl) (by kernel_rfl) (by kernel_rfl) (by kernel_rfl) (fun _ _ _ h => h) (by assumption) ?_; simp only [List.set_cons_zero, List.set_cons_succ])
    (refine skipH 11 93 (by kernel_rfl) (by kernel_rfl) (by kernel_rfl) (by kernel_rfl) (by kernel_rfl) (fun _ _ _ h => h) (by assumption) ?_; simp only [List.set_cons_zero, List.set_cons_succ])
    (refine skipH 12 94 (by kernel_rfl) (by kernel_rfl) (by kernel_rfl) (by kernel_rfl) (by kernel_rfl) (fun _ _ _ h => h) (by assumption) ?_; simp only [List.set_cons_zero, List.set_cons_succ])
    (refine skipH 13 95 (by kernel_rfl) (by kernel_rfl) (by kernel_rfl) (by kernel_rfl) (by kernel_rfl) (fun _ _ _ h => h) (by assumption) ?_; simp only [List.set_cons_zero, List.set_cons_succ])
    (refine skipH 14 96 (by kernel_rfl) (by kernel_rfl) (by kernel_rfl) (by kernel_rfl) (by kernel_rfl) (fun _ _ _ h => h) (by assumption) ?_; simp only [List.set_cons_zero, List.set_cons_succ])
    (refine skipH 15 97 (by kernel_rfl) (by kernel_rfl) (by kernel_rfl) (by kernel_rfl) (by kernel_rfl) (fun _ _ _ h => h) (by assumption) ?_; simp only [List.set_cons_zero, List.set_cons_succ])
    (refine takeH 16 98 ?_ (by kernel_rfl) (by kernel_rfl) (by kernel_rfl) (by kernel_rfl) (by kernel_rfl) (fun _ _ _ h => h) ?_ (by assumption) ?_; rotate_left; (intro oi ho w hSw; simp only [List.getElem?_toArray, List.getElem?_cons_succ, List.getElem?_cons_zero, Option.some.injEq] at ho; subst ho; (try dsimp only at hSw); go_simp; try (with_reducible rfl)); simp only [List.set_cons_zero, List.set_cons_succ])
    (refine takeH 17 99 ?_ (by kernel_rfl) (by kernel_rfl) (by kernel_rfl) (by kernel_rfl) (by kernel_rfl) (fun _ _ _ h => h) ?_ (by assumption) ?_; rotate_left; (intro oi ho w hSw; simp only [List.getElem?_toArray, List.getElem?_cons_succ, List.getElem?_cons_zero, Option.some.injEq] at ho; subst ho; (try dsimp only at hSw); go_simp; try (with_reducible rfl)); simp only [List.set_cons_zero, List.set_cons_succ])
    refine wpAnyH_ready (rs := [18]) (by kernel_rfl) (by simp) ?_
    refine AllReadyH.cons rfl (fun K hK => ?_) AllReadyH.nil
    go_simp
    go_at_call 11
    (with_reducible refine (awake_t _).mono ?_)
    rintro e x1 ⟨rfl, f1⟩; (first | (replace hL := hL.drew.frm f1; replace hF := hF.drew.trans f1 (fun _ _ e => e); replace hB := hB.drew.frm f1 (fun e => e); replace hS := hS.drew.frm f1 (fun e => e)) | (replace hL := hL.frm f1; replace hF := hF.trans f1 (fun _ _ e => e); replace hB := hB.frm f1 (fun e => e); replace hS := hS.frm f1 (fun e => e)))
    go_wp2_with fail
    refine hK.out _ _ ⟨(lk_cells hB).1, (lk_cells hB).2.1, (lk_cells hB).2.2.1, (lk_cells hB).2.2.2.1, (lk_cells hB).2.2.2.2.1, (lk_cells hB).2.2.2.2.2.1, (lk_cells hB).2.2.2.2.2.2, (s_cells hS).1, (s_cells hS).2.1, (s_cells hS).2.2⟩ (fun hHeld2 => ?_)
    (try simp only [Act.put, List.setIfInBounds_toArray, List.set_cons_zero, List.set_cons_succ])
    (refine takeH 19 101 ?_ (by kernel_rfl) (by kernel_rfl) (by kernel_rfl) (by kernel_rfl) (by kernel_rfl) (fun _ _ _ h => h) ?_ (by assumption) ?_; rotate_left; (intro oi ho w hSw; simp only [List.getElem?_toArray, List.getElem?_cons_succ, List.getElem?_cons_zero, Option.some.injEq] at ho; subst ho; (try dsimp only at hSw); go_simp; try (with_reducible rfl)); simp only [List.set_cons_zero, List.set_cons_succ])
    (refine takeH 20 4 ?_ (by kernel_rfl) (by kernel_rfl) (by kernel_rfl) (by kernel_rfl) (by kernel_rfl) (fun _ _ _ h => h) ?_ (by assumption) ?_; rotate_left; (intro oi ho w hSw; simp only [List.getElem?_toArray, List.getElem?_cons_succ, List.getElem?_cons_zero, Option.some.injEq] at ho; subst ho; (try dsimp only at hSw); go_simp; try (with_reducible rfl)); simp only [List.set_cons_zero, List.set_cons_succ])
    refine wpAnyH_done (by kernel_rfl) ?_ _
    go_wp2
    go_ret
    exact ⟨rfl, hF⟩

theorem linkSources_walk (_ws : (Lit.int .u64 sd).wf = true) (hL : (n : Int) ≤ 100 → LC w A n B cs) :
    Calls Try.prog 9 #[.agg #[.int .i64 d0, .int .i64 d1, .int .i64 v0, .int .i64 v1, .int .i64 ls, .int .u64 sd, .slice A n c], .agg #[.int .i64 s0, .int .i64 s1, .int .i64 s2]] w fun e w' => e = .returned (.bool true) ∧ Frm w w' NoB := by
  cases HP : decide ((n : Int) ≤ 100)
  · exact linkSources_far d0 d1 v0 v1 ls sd A n c s0 s1 s2 w HP
  replace hL := hL (of_decide_eq_true HP)
  cases HR : rt s0 s1 s2
  · exact linkSources_off d0 d1 v0 v1 ls sd A n c B cs s0 s1 s2 w HP HR hL rfl (.inl rfl)
  by_cases HE : chk d0 d1 v0 v1 ls cs = 0
  · obtain ⟨r1, r2, r3⟩ := rt_iff.1 HR
    obtain ⟨hh, _, _, _⟩ := chk_zero HE
    obtain ⟨_, _, b3, b4, b5⟩ := hd_bounds hh
    obtain ⟨dk, rfl⟩ := Int.eq_ofNat_of_zero_le r1.1
    have b0 := delayF_bounds d0 d1 v0 v1 ls cs dk s1
    have b1 := noiseF_bounds d0 d1 v0 v1 ls sd cs dk s2
    have hn : noiseF d0 d1 v0 v1 ls sd cs dk s2 = nz sd (if dk = 0 then v0 else v1) dk s2 := by
      have z1 : (0 : Int) ≤ 0 ∧ (0 : Int) ≤ 1125899906842624 := by decide
      unfold noiseF; rw [if_pos (vld_iff.2 ⟨HE, r1, z1, r3⟩), sel_eq]
    have ha := arr_lost (sd := sd) HE HR
    have hv : 0 ≤ (if dk = 0 then v0 else v1) ∧ (if dk = 0 then v0 else v1) ≤ 10000000000 := by split <;> assumption
    have hx : arrB d0 d1 v0 v1 ls sd cs dk s1 s2 = true ∧ ls ≤ mixI sd (4 * s2 + 2 * dk) % 1000 ∧ arrT d0 d1 v0 v1 ls sd cs dk s1 s2 = s1 + delayF d0 d1 v0 v1 ls cs dk s1 + noiseF d0 d1 v0 v1 ls sd cs dk s2 ∨
        arrB d0 d1 v0 v1 ls sd cs dk s1 s2 = false ∧ mixI sd (4 * s2 + 2 * dk) % 1000 < ls := by
      by_cases q1 : mixI sd (4 * s2 + 2 * dk) % 1000 < ls
      · have c1 : lost sd ls dk s2 = true := by unfold lost; exact decide_eq_true q1
        rw [c1] at ha
        exact .inr ⟨ha, q1⟩
      · have c1 : lost sd ls dk s2 = false := by unfold lost; exact decide_eq_false q1
        rw [c1] at ha
        exact .inl ⟨ha, Int.not_lt.1 q1, arr_yes ha⟩
    have w12 : IntKind.i64.wrap (s1 + delayF d0 d1 v0 v1 ls cs dk s1) = s1 + delayF d0 d1 v0 v1 ls cs dk s1 ∧
        IntKind.i64.wrap (s1 + delayF d0 d1 v0 v1 ls cs dk s1 + noiseF d0 d1 v0 v1 ls sd cs dk s2) = s1 + delayF d0 d1 v0 v1 ls cs dk s1 + noiseF d0 d1 v0 v1 ls sd cs dk s2 := by
      clear hx ha hn HE HR HP hL
      generalize delayF d0 d1 v0 v1 ls cs dk s1 = D at *
      generalize noiseF d0 d1 v0 v1 ls sd cs dk s2 = N at *
      exact ⟨IntWalk.i64_in _ (by omega), IntWalk.i64_in _ (by omega)⟩
    exact linkSources_in d0 d1 v0 v1 ls sd A n c B cs s1 s2 w HP HR hL HE rfl (by omega) hv b5 r3 rfl rfl (fun w => mix_t sd (4 * s2 + 2 * dk) w) (fun w => mix_t sd (4 * s2 + 2 * dk + 1) w)
      rfl rfl (mixI_nonneg _ _) (mixI_nonneg _ _) hn.symm w12.1 w12.2 hx
  · exact linkSources_off d0 d1 v0 v1 ls sd A n c B cs s0 s1 s2 w HP HR hL rfl (.inr ⟨rfl, HE⟩)
end
end Go.Proofs.Ytchmaecakjeceaa
