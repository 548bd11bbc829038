/- What Arrive of the reference returns. -/
import Derived.Test.YtchmaecakjeceaaW8
namespace Go.Proofs.Ytchmaecakjeceaa
open Go.RowKit

section
variable (d0 d1 v0 v1 ls sd : Int) (A : Option Addr) (n c B : Nat) (cs : List Chg) (dir at_ m : Int) (w : World)
set_option maxHeartbeats 8000000 in
theorem rarrive_no {e0 : Int} {p1 p2 p3 : Bool} (hL : LC w A n B cs) (HE : Hid (chk d0 d1 v0 v1 ls cs = e0)) (E1 : Hid (okr 1 dir = p1)) (E2 : Hid (okr 1125899906842624 at_ = p2)) (E3 : Hid (okr 1099511627776 m = p3))
    (ht : e0 ≠ 0 ∨ e0 = 0 ∧ (p1 = false ∨ p1 = true ∧ p2 = false ∨ p1 = true ∧ p2 = true ∧ p3 = false)) :
    Calls Try.prog 23 #[.agg #[.int .i64 d0, .int .i64 d1, .int .i64 v0, .int .i64 v1, .int .i64 ls, .int .u64 sd, .slice A n c], .int .i64 dir, .int .i64 at_, .int .i64 m] w fun e w' => e = .returned (.tuple #[.int .i64 0, .bool false]) ∧ Frm w w' NoB := by
  have hF : Frm w (w.alloc (.cells (LkCells d0 d1 v0 v1 ls sd A n c) 26)) NoB := (Frm.refl w _).alloc _
  have hB : Blk (w.alloc (.cells (LkCells d0 d1 v0 v1 ls sd A n c) 26)) w.heap.size 26 (LkCells d0 d1 v0 v1 ls sd A n c) := Blk.new _ _ _
  replace hL := hL.alloc (.cells (LkCells d0 d1 v0 v1 ls sd A n c) 26)
  rcases ht with h0 | ⟨rfl, rfl | ⟨rfl, rfl⟩ | ⟨rfl, rfl, rfl⟩⟩
  · have hb : (e0 != 0) = true := by rw [bne_iff_ne]; exact h0
    clear h0
    go_enter Try.func23, Try.ntmps23
    go_wp2_with (first | (go_at_call 13; (with_reducible refine (rcheck_b hL HE).mono ?_); rintro e x1 ⟨rfl, f1⟩; replace hL := hL.frm f1; replace hF := hF.trans f1 (fun _ _ e => e); replace hB := hB.frm f1 (fun e => e)))
    go_ret2
    exact ⟨rfl, hF⟩
  · go_enter Try.func23, Try.ntmps23
    go_wp2_with (first | (go_at_call 13; (with_reducible refine (rcheck_b hL HE).mono ?_); rintro e x1 ⟨rfl, f1⟩; replace hL := hL.frm f1; replace hF := hF.trans f1 (fun _ _ e => e); replace hB := hB.frm f1 (fun e => e)) | (go_at_call 27; (with_reducible refine (rright_b E1 _).mono ?_); rintro e x1 ⟨rfl, rfl⟩))
    go_ret2
    exact ⟨rfl, hF⟩
  · go_enter Try.func23, Try.ntmps23
    go_wp2_with (first | (go_at_call 13; (with_reducible refine (rcheck_b hL HE).mono ?_); rintro e x1 ⟨rfl, f1⟩; replace hL := hL.frm f1; replace hF := hF.trans f1 (fun _ _ e => e); replace hB := hB.frm f1 (fun e => e)) | (go_at_call 27; (with_reducible refine (rright_b E1 _).mono ?_); rintro e x1 ⟨rfl, rfl⟩) | (go_at_call 27; (with_reducible refine (rright_b E2 _).mono ?_); rintro e x1 ⟨rfl, rfl⟩))
    go_ret2
    exact ⟨rfl, hF⟩
  · go_enter Try.func23, Try.ntmps23
    go_wp2_with (first | (go_at_call 13; (with_reducible refine (rcheck_b hL HE).mono ?_); rintro e x1 ⟨rfl, f1⟩; replace hL := hL.frm f1; replace hF := hF.trans f1 (fun _ _ e => e); replace hB := hB.frm f1 (fun e => e)) | (go_at_call 27; (with_reducible refine (rright_b E1 _).mono ?_); rintro e x1 ⟨rfl, rfl⟩) | (go_at_call 27; (with_reducible refine (rright_b E2 _).mono ?_); rintro e x1 ⟨rfl, rfl⟩) | (go_at_call 27; (with_reducible refine (rright_b E3 _).mono ?_); rintro e x1 ⟨rfl, rfl⟩))
    go_ret2
    exact ⟨rfl, hF⟩

set_option maxHeartbeats 8000000 in
theorem rarrive_in (hL : LC w A n B cs) (HE : Hid (chk d0 d1 v0 v1 ls cs = 0)) (E1 : Hid (okr 1 dir = true)) (E2 : Hid (okr 1125899906842624 at_ = true)) (E3 : Hid (okr 1099511627776 m = true))
    {q : Bool} (hl : Hid (lost sd ls dir m = q)) (hls : 0 ≤ ls ∧ ls ≤ 1000) :
    Calls Try.prog 23 #[.agg #[.int .i64 d0, .int .i64 d1, .int .i64 v0, .int .i64 v1, .int .i64 ls, .int .u64 sd, .slice A n c], .int .i64 dir, .int .i64 at_, .int .i64 m] w fun e w' =>
      e = .returned (.tuple #[.int .i64 (if q = true then 0 else at_ + delayF d0 d1 v0 v1 ls cs dir at_ + noiseF d0 d1 v0 v1 ls sd cs dir m), .bool (!q)]) ∧ Frm w w' NoB := by
  have h1 := okr_iff.1 E1.out
  have h3 := okr_iff.1 E2.out
  have h2 := okr_iff.1 E3.out
  have hF : Frm w (w.alloc (.cells (LkCells d0 d1 v0 v1 ls sd A n c) 26)) NoB := (Frm.refl w _).alloc _
  have hB : Blk (w.alloc (.cells (LkCells d0 d1 v0 v1 ls sd A n c) 26)) w.heap.size 26 (LkCells d0 d1 v0 v1 ls sd A n c) := Blk.new _ _ _
  replace hL := hL.alloc (.cells (LkCells d0 d1 v0 v1 ls sd A n c) 26)
  have b0 := delayF_bounds d0 d1 v0 v1 ls cs dir at_
  have b1 := noiseF_bounds d0 d1 v0 v1 ls sd cs dir m
  obtain ⟨x, hx⟩ : ∃ x, delayF d0 d1 v0 v1 ls cs dir at_ = x := ⟨_, rfl⟩
  obtain ⟨y, hy⟩ : ∃ y, noiseF d0 d1 v0 v1 ls sd cs dir m = y := ⟨_, rfl⟩
  rw [hx] at b0 ⊢
  rw [hy] at b1 ⊢
  have Hx := Lib.hid hx
  have Hy := Lib.hid hy
  have t1 : IntKind.i64.wrap (at_ + x) = at_ + x := IntWalk.i64_in _ (by omega)
  have t2 : IntKind.i64.wrap (at_ + x + y) = at_ + x + y := IntWalk.i64_in _ (by omega)
  have s5 : IntKind.i64.wrap (4 * m) = 4 * m := IntWalk.i64_in _ (by omega)
  have s6 : IntKind.i64.wrap (2 * dir) = 2 * dir := IntWalk.i64_in _ (by omega)
  have s7 : IntKind.i64.wrap (4 * m + 2 * dir) = 4 * m + 2 * dir := IntWalk.i64_in _ (by omega)
  have s9 : IntKind.u64.wrap (4 * m + 2 * dir) = 4 * m + 2 * dir := IntWalk.u64_in _ (by omega)
  have s10 : IntKind.u64.wrap ls = ls := IntWalk.u64_in _ (by omega)
  obtain ⟨X, hX⟩ : ∃ X, mixI sd (4 * m + 2 * dir) = X := ⟨_, rfl⟩
  have hX0 : 0 ≤ X := by rw [← hX]; exact mixI_nonneg _ _
  have hl2 : decide (X % 1000 < ls) = q := by rw [← hX]; exact hl.out
  have s1 : X.tmod 1000 = X % 1000 := Int.tmod_eq_emod_of_nonneg hX0
  have hm : ∀ w, Calls Try.prog 30 #[.int .u64 sd, .int .u64 (4 * m + 2 * dir)] w fun e w' => e = .returned (.int .u64 X) ∧ w = w' := by
    intro w
    have k := rmix_t sd (4 * m + 2 * dir) w
    rw [hX] at k
    exact k
  have HM := Lib.hid hm
  clear hm hX hx hy
  cases q
  · go_enter Try.func23, Try.ntmps23
    go_wp2_with (first | (go_at_call 13; (with_reducible refine (rcheck_b hL HE).mono ?_); rintro e x1 ⟨rfl, f1⟩; replace hL := hL.frm f1; replace hF := hF.trans f1 (fun _ _ e => e); replace hB := hB.frm f1 (fun e => e)) | (go_at_call 27; (with_reducible refine (rright_b E1 _).mono ?_); rintro e x1 ⟨rfl, rfl⟩) | (go_at_call 27; (with_reducible refine (rright_b E2 _).mono ?_); rintro e x1 ⟨rfl, rfl⟩) | (go_at_call 27; (with_reducible refine (rright_b E3 _).mono ?_); rintro e x1 ⟨rfl, rfl⟩))
    have hK := lk_cells hB
    go_region_held3 (fun w' => w'.cell? ⟨w.heap.size, 0, none⟩ = some (.int .i64 d0) ∧ w'.cell? ⟨w.heap.size, 1, none⟩ = some (.int .i64 d1) ∧ w'.cell? ⟨w.heap.size, 2, none⟩ = some (.int .i64 v0) ∧ w'.cell? ⟨w.heap.size, 3, none⟩ = some (.int .i64 v1) ∧ w'.cell? ⟨w.heap.size, 4, none⟩ = some (.int .i64 ls) ∧ w'.cell? ⟨w.heap.size, 5, none⟩ = some (.int .u64 sd) ∧ w'.cell? ⟨w.heap.size, 6, none⟩ = some (.slice A n c)) (first | go_keep | exact lk_cells hB)
      (first | (go_at_call 30; (with_reducible refine (HM.out _).mono ?_); rintro e x2 ⟨rfl, rfl⟩))
    replace hL := hL.drew
    replace hB := hB.drew
    replace hF := hF.drew
    go_wp2_with fail
    have hK := lk_cells hB
    go_region_held3 (fun w' => w'.cell? ⟨w.heap.size, 0, none⟩ = some (.int .i64 d0) ∧ w'.cell? ⟨w.heap.size, 1, none⟩ = some (.int .i64 d1) ∧ w'.cell? ⟨w.heap.size, 2, none⟩ = some (.int .i64 v0) ∧ w'.cell? ⟨w.heap.size, 3, none⟩ = some (.int .i64 v1) ∧ w'.cell? ⟨w.heap.size, 4, none⟩ = some (.int .i64 ls) ∧ w'.cell? ⟨w.heap.size, 5, none⟩ = some (.int .u64 sd) ∧ w'.cell? ⟨w.heap.size, 6, none⟩ = some (.slice A n c)) (first | go_keep | exact lk_cells hB)
      (first
        | (go_at_call 15; (with_reducible refine (rdelay_b (by first | exact hL.drew | exact hL) Hx).mono ?_); rintro e x1 ⟨rfl, f1⟩; (first | (replace hL := hL.drew.frm f1; replace hF := hF.drew.trans f1 (fun _ _ e => e); replace hB := hB.drew.frm f1 (fun e => e)) | (replace hL := hL.frm f1; replace hF := hF.trans f1 (fun _ _ e => e); replace hB := hB.frm f1 (fun e => e))))
        | (go_at_call 19; (with_reducible refine (rnoise_b (by first | exact hL.drew | exact hL) Hy).mono ?_); rintro e x1 ⟨rfl, f1⟩; (first | (replace hL := hL.drew.frm f1; replace hF := hF.drew.trans f1 (fun _ _ e => e); replace hB := hB.drew.frm f1 (fun e => e)) | (replace hL := hL.frm f1; replace hF := hF.trans f1 (fun _ _ e => e); replace hB := hB.frm f1 (fun e => e)))))
    go_wp2
    go_ret2
    exact ⟨rfl, hF⟩
  · go_enter Try.func23, Try.ntmps23
    go_wp2_with (first | (go_at_call 13; (with_reducible refine (rcheck_b hL HE).mono ?_); rintro e x1 ⟨rfl, f1⟩; replace hL := hL.frm f1; replace hF := hF.trans f1 (fun _ _ e => e); replace hB := hB.frm f1 (fun e => e)) | (go_at_call 27; (with_reducible refine (rright_b E1 _).mono ?_); rintro e x1 ⟨rfl, rfl⟩) | (go_at_call 27; (with_reducible refine (rright_b E2 _).mono ?_); rintro e x1 ⟨rfl, rfl⟩) | (go_at_call 27; (with_reducible refine (rright_b E3 _).mono ?_); rintro e x1 ⟨rfl, rfl⟩))
    have hK := lk_cells hB
    go_region_held3 (fun w' => w'.cell? ⟨w.heap.size, 0, none⟩ = some (.int .i64 d0) ∧ w'.cell? ⟨w.heap.size, 1, none⟩ = some (.int .i64 d1) ∧ w'.cell? ⟨w.heap.size, 2, none⟩ = some (.int .i64 v0) ∧ w'.cell? ⟨w.heap.size, 3, none⟩ = some (.int .i64 v1) ∧ w'.cell? ⟨w.heap.size, 4, none⟩ = some (.int .i64 ls) ∧ w'.cell? ⟨w.heap.size, 5, none⟩ = some (.int .u64 sd) ∧ w'.cell? ⟨w.heap.size, 6, none⟩ = some (.slice A n c)) (first | go_keep | exact lk_cells hB)
      (first | (go_at_call 30; (with_reducible refine (HM.out _).mono ?_); rintro e x2 ⟨rfl, rfl⟩))
    replace hF := hF.drew
    go_wp2
    go_ret2
    exact ⟨rfl, hF⟩

theorem rarrive_t (hL : LC w A n B cs) :
    Calls Try.prog 23 #[.agg #[.int .i64 d0, .int .i64 d1, .int .i64 v0, .int .i64 v1, .int .i64 ls, .int .u64 sd, .slice A n c], .int .i64 dir, .int .i64 at_, .int .i64 m] w fun e w' =>
      e = .returned (.tuple #[.int .i64 (arrT d0 d1 v0 v1 ls sd cs dir at_ m), .bool (arrB d0 d1 v0 v1 ls sd cs dir at_ m)]) ∧ Frm w w' NoB := by
  obtain ⟨e0, he⟩ : ∃ e, chk d0 d1 v0 v1 ls cs = e := ⟨_, rfl⟩
  obtain ⟨p1, e1⟩ : ∃ p, okr 1 dir = p := ⟨_, rfl⟩
  obtain ⟨p2, e2⟩ : ∃ p, okr 1125899906842624 at_ = p := ⟨_, rfl⟩
  obtain ⟨p3, e3⟩ : ∃ p, okr 1099511627776 m = p := ⟨_, rfl⟩
  have hv : vld d0 d1 v0 v1 ls cs dir at_ m = (decide (e0 = 0) && p1 && p2 && p3) := by unfold vld; rw [he, e1, e2, e3]
  rcases vld3_cases (e0 := e0) (p1 := p1) (p2 := p2) (p3 := p3) with ⟨hf, ht⟩ | ⟨htr, rfl, rfl, rfl, rfl⟩
  · have k1 : arrB d0 d1 v0 v1 ls sd cs dir at_ m = false := by unfold arrB; rw [hv, hf]; rfl
    have k2 : arrT d0 d1 v0 v1 ls sd cs dir at_ m = 0 := by unfold arrT; rw [k1]; rfl
    rw [k1, k2]
    exact rarrive_no d0 d1 v0 v1 ls sd A n c B cs dir at_ m w hL he e1 e2 e3 ht
  · obtain ⟨hh, _, _, _⟩ := chk_zero he
    obtain ⟨_, _, _, _, b5⟩ := hd_bounds hh
    have k := rarrive_in d0 d1 v0 v1 ls sd A n c B cs dir at_ m w hL he e1 e2 e3 (q := lost sd ls dir m) rfl b5
    have k1 : arrB d0 d1 v0 v1 ls sd cs dir at_ m = !lost sd ls dir m := by unfold arrB; rw [hv, htr]; rfl
    have k2 : arrT d0 d1 v0 v1 ls sd cs dir at_ m = if lost sd ls dir m = true then 0 else at_ + delayF d0 d1 v0 v1 ls cs dir at_ + noiseF d0 d1 v0 v1 ls sd cs dir m := by
      unfold arrT; rw [k1]; cases lost sd ls dir m <;> rfl
    rw [k1, k2]
    exact k
end
end Go.Proofs.Ytchmaecakjeceaa
