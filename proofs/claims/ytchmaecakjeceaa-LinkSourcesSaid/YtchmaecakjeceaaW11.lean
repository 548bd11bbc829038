/- LinkChecks and LinkDelays return true. -/
import Derived.Test.YtchmaecakjeceaaW10
namespace Go.Proofs.Ytchmaecakjeceaa
open Go.RowKit

theorem small_t (d0 d1 v0 v1 ls sd : Int) (A : Option Addr) (n c : Nat) (w : World) :
    Calls Try.prog 10 #[.agg #[.int .i64 d0, .int .i64 d1, .int .i64 v0, .int .i64 v1, .int .i64 ls, .int .u64 sd, .slice A n c]] w fun e w' => e = .returned (.bool (decide ((n : Int) ≤ 100))) ∧ Frm w w' NoB := by
  go_enter Try.func10, Try.ntmps10
  go_wp2
  go_ret
  exact ⟨rfl, (Frm.refl w _).alloc _⟩
theorem small_b {d0 d1 v0 v1 ls sd : Int} {A : Option Addr} {n c : Nat} {p : Bool} (H : Hid (decide ((n : Int) ≤ 100) = p)) (w : World) :
    Calls Try.prog 10 #[.agg #[.int .i64 d0, .int .i64 d1, .int .i64 v0, .int .i64 v1, .int .i64 ls, .int .u64 sd, .slice A n c]] w fun e w' => e = .returned (.bool p) ∧ Frm w w' NoB := by
  have k := small_t d0 d1 v0 v1 ls sd A n c w
  rw [H.out] at k
  exact k

theorem rasym_b {d0 d1 v0 v1 ls sd : Int} {A : Option Addr} {n c B : Nat} {cs : List Chg} {at_ x : Int} {w : World} (hL : LC w A n B cs) (H : Hid (delayF d0 d1 v0 v1 ls cs 0 at_ - delayF d0 d1 v0 v1 ls cs 1 at_ = x)) :
    Calls Try.prog 17 #[.agg #[.int .i64 d0, .int .i64 d1, .int .i64 v0, .int .i64 v1, .int .i64 ls, .int .u64 sd, .slice A n c], .int .i64 at_] w fun e w' => e = .returned (.int .i64 x) ∧ Frm w w' NoB := by
  have k := rasym_t d0 d1 v0 v1 ls sd A n c B cs at_ w hL
  rw [H.out] at k
  exact k

section
variable (d0 d1 v0 v1 ls sd : Int) (A : Option Addr) (n c B : Nat) (cs : List Chg) (dir at_ : Int) (w : World)
set_option maxHeartbeats 2000000 in
theorem linkChecks_walk (_ws : (Lit.int .u64 sd).wf = true) (hL : (n : Int) ≤ 100 → LC w A n B cs) :
    Calls Try.prog 3 #[.agg #[.int .i64 d0, .int .i64 d1, .int .i64 v0, .int .i64 v1, .int .i64 ls, .int .u64 sd, .slice A n c]] w fun e w' => e = .returned (.bool true) ∧ Frm w w' NoB := by
  have hF : Frm w (w.alloc (.cells (LkCells d0 d1 v0 v1 ls sd A n c) 26)) NoB := (Frm.refl w _).alloc _
  have hB : Blk (w.alloc (.cells (LkCells d0 d1 v0 v1 ls sd A n c) 26)) w.heap.size 26 (LkCells d0 d1 v0 v1 ls sd A n c) := Blk.new _ _ _
  obtain ⟨p, hp⟩ : ∃ p, decide ((n : Int) ≤ 100) = p := ⟨_, rfl⟩
  obtain ⟨e0, he⟩ : ∃ e, chk d0 d1 v0 v1 ls cs = e := ⟨_, rfl⟩
  have HP := Lib.hid hp
  have HE := Lib.hid he
  clear hp he
  cases p
  · clear hL
    go_enter Try.func3, Try.ntmps3
    go_wp2_with (first
      | (go_at_call 10; (with_reducible refine (small_b HP _).mono ?_); rintro e x1 ⟨rfl, f1⟩; replace hF := hF.trans f1 (fun _ _ e => e); replace hB := hB.frm f1 (fun e => e); obtain ⟨_, _, _, _, _, _, _⟩ := lk_cells hB)
      | (go_at_call 11; (with_reducible refine (awake_t _).mono ?_); rintro e x1 ⟨rfl, f1⟩; replace hF := hF.trans f1 (fun _ _ e => e); replace hB := hB.frm f1 (fun e => e); obtain ⟨_, _, _, _, _, _, _⟩ := lk_cells hB))
    go_ret
    exact ⟨rfl, hF⟩
  · replace hL := (hL (of_decide_eq_true HP.out)).alloc (.cells (LkCells d0 d1 v0 v1 ls sd A n c) 26)
    go_enter Try.func3, Try.ntmps3
    go_wp2_with (first
      | (go_at_call 10; (with_reducible refine (small_b HP _).mono ?_); rintro e x1 ⟨rfl, f1⟩; replace hL := hL.frm f1; replace hF := hF.trans f1 (fun _ _ e => e); replace hB := hB.frm f1 (fun e => e); obtain ⟨_, _, _, _, _, _, _⟩ := lk_cells hB))
    go_region_held3 (fun w' => w'.cell? ⟨w.heap.size, 0, none⟩ = some (.int .i64 d0) ∧ w'.cell? ⟨w.heap.size, 1, none⟩ = some (.int .i64 d1) ∧ w'.cell? ⟨w.heap.size, 2, none⟩ = some (.int .i64 v0) ∧ w'.cell? ⟨w.heap.size, 3, none⟩ = some (.int .i64 v1) ∧ w'.cell? ⟨w.heap.size, 4, none⟩ = some (.int .i64 ls) ∧ w'.cell? ⟨w.heap.size, 5, none⟩ = some (.int .u64 sd) ∧ w'.cell? ⟨w.heap.size, 6, none⟩ = some (.slice A n c)) (first | go_keep | exact lk_cells hB)
      (first
        | (go_at_call 12; (with_reducible refine (check_b (by first | exact hL | exact hL.drew) HE).mono ?_); rintro e x1 ⟨rfl, f1⟩; (first | (replace hL := hL.drew.frm f1; replace hF := hF.drew.trans f1 (fun _ _ e => e); replace hB := hB.drew.frm f1 (fun e => e)) | (replace hL := hL.frm f1; replace hF := hF.trans f1 (fun _ _ e => e); replace hB := hB.frm f1 (fun e => e))))
        | (go_at_call 13; (with_reducible refine (rcheck_b (by first | exact hL | exact hL.drew) HE).mono ?_); rintro e x1 ⟨rfl, f1⟩; (first | (replace hL := hL.drew.frm f1; replace hF := hF.drew.trans f1 (fun _ _ e => e); replace hB := hB.drew.frm f1 (fun e => e)) | (replace hL := hL.frm f1; replace hF := hF.trans f1 (fun _ _ e => e); replace hB := hB.frm f1 (fun e => e))))
        | (go_at_call 11; (with_reducible refine (awake_t _).mono ?_); rintro e x1 ⟨rfl, f1⟩; (first | (replace hL := hL.drew.frm f1; replace hF := hF.drew.trans f1 (fun _ _ e => e); replace hB := hB.drew.frm f1 (fun e => e)) | (replace hL := hL.frm f1; replace hF := hF.trans f1 (fun _ _ e => e); replace hB := hB.frm f1 (fun e => e)))))
    go_wp2
    go_ret
    exact ⟨rfl, hF⟩
set_option maxHeartbeats 2000000 in
theorem linkDelays_walk (_ws : (Lit.int .u64 sd).wf = true) (_w1 : (Lit.int .i64 dir).wf = true) (_w2 : (Lit.int .i64 at_).wf = true) (hL : (n : Int) ≤ 100 → LC w A n B cs) :
    Calls Try.prog 4 #[.agg #[.int .i64 d0, .int .i64 d1, .int .i64 v0, .int .i64 v1, .int .i64 ls, .int .u64 sd, .slice A n c], .int .i64 dir, .int .i64 at_] w fun e w' => e = .returned (.bool true) ∧ Frm w w' NoB := by
  have hF : Frm w (w.alloc (.cells (LkCells d0 d1 v0 v1 ls sd A n c) 26)) NoB := (Frm.refl w _).alloc _
  have hB : Blk (w.alloc (.cells (LkCells d0 d1 v0 v1 ls sd A n c) 26)) w.heap.size 26 (LkCells d0 d1 v0 v1 ls sd A n c) := Blk.new _ _ _
  obtain ⟨p, hp⟩ : ∃ p, decide ((n : Int) ≤ 100) = p := ⟨_, rfl⟩
  obtain ⟨x, hx⟩ : ∃ e, delayF d0 d1 v0 v1 ls cs dir at_ = e := ⟨_, rfl⟩
  obtain ⟨y, hy⟩ : ∃ e, delayF d0 d1 v0 v1 ls cs 0 at_ - delayF d0 d1 v0 v1 ls cs 1 at_ = e := ⟨_, rfl⟩
  have HP := Lib.hid hp
  have HX := Lib.hid hx
  have HY := Lib.hid hy
  clear hp hx hy
  cases p
  · clear hL
    go_enter Try.func4, Try.ntmps4
    go_wp2_with (first
      | (go_at_call 10; (with_reducible refine (small_b HP _).mono ?_); rintro e x1 ⟨rfl, f1⟩; replace hF := hF.trans f1 (fun _ _ e => e); replace hB := hB.frm f1 (fun e => e); obtain ⟨_, _, _, _, _, _, _⟩ := lk_cells hB)
      | (go_at_call 11; (with_reducible refine (awake_t _).mono ?_); rintro e x1 ⟨rfl, f1⟩; replace hF := hF.trans f1 (fun _ _ e => e); replace hB := hB.frm f1 (fun e => e); obtain ⟨_, _, _, _, _, _, _⟩ := lk_cells hB))
    go_ret
    exact ⟨rfl, hF⟩
  · replace hL := (hL (of_decide_eq_true HP.out)).alloc (.cells (LkCells d0 d1 v0 v1 ls sd A n c) 26)
    go_enter Try.func4, Try.ntmps4
    go_wp2_with (first
      | (go_at_call 10; (with_reducible refine (small_b HP _).mono ?_); rintro e x1 ⟨rfl, f1⟩; replace hL := hL.frm f1; replace hF := hF.trans f1 (fun _ _ e => e); replace hB := hB.frm f1 (fun e => e); obtain ⟨_, _, _, _, _, _, _⟩ := lk_cells hB))
    go_region_held3 (fun w' => w'.cell? ⟨w.heap.size, 0, none⟩ = some (.int .i64 d0) ∧ w'.cell? ⟨w.heap.size, 1, none⟩ = some (.int .i64 d1) ∧ w'.cell? ⟨w.heap.size, 2, none⟩ = some (.int .i64 v0) ∧ w'.cell? ⟨w.heap.size, 3, none⟩ = some (.int .i64 v1) ∧ w'.cell? ⟨w.heap.size, 4, none⟩ = some (.int .i64 ls) ∧ w'.cell? ⟨w.heap.size, 5, none⟩ = some (.int .u64 sd) ∧ w'.cell? ⟨w.heap.size, 6, none⟩ = some (.slice A n c)) (first | go_keep | exact lk_cells hB)
      (first
        | (go_at_call 14; (with_reducible refine (delay_b (by first | exact hL | exact hL.drew) HX).mono ?_); rintro e x1 ⟨rfl, f1⟩; (first | (replace hL := hL.drew.frm f1; replace hF := hF.drew.trans f1 (fun _ _ e => e); replace hB := hB.drew.frm f1 (fun e => e)) | (replace hL := hL.frm f1; replace hF := hF.trans f1 (fun _ _ e => e); replace hB := hB.frm f1 (fun e => e))))
        | (go_at_call 15; (with_reducible refine (rdelay_b (by first | exact hL | exact hL.drew) HX).mono ?_); rintro e x1 ⟨rfl, f1⟩; (first | (replace hL := hL.drew.frm f1; replace hF := hF.drew.trans f1 (fun _ _ e => e); replace hB := hB.drew.frm f1 (fun e => e)) | (replace hL := hL.frm f1; replace hF := hF.trans f1 (fun _ _ e => e); replace hB := hB.frm f1 (fun e => e))))
        | (go_at_call 16; (with_reducible refine (asym_b (by first | exact hL | exact hL.drew) HY).mono ?_); rintro e x1 ⟨rfl, f1⟩; (first | (replace hL := hL.drew.frm f1; replace hF := hF.drew.trans f1 (fun _ _ e => e); replace hB := hB.drew.frm f1 (fun e => e)) | (replace hL := hL.frm f1; replace hF := hF.trans f1 (fun _ _ e => e); replace hB := hB.frm f1 (fun e => e))))
        | (go_at_call 17; (with_reducible refine (rasym_b (by first | exact hL | exact hL.drew) HY).mono ?_); rintro e x1 ⟨rfl, f1⟩; (first | (replace hL := hL.drew.frm f1; replace hF := hF.drew.trans f1 (fun _ _ e => e); replace hB := hB.drew.frm f1 (fun e => e)) | (replace hL := hL.frm f1; replace hF := hF.trans f1 (fun _ _ e => e); replace hB := hB.frm f1 (fun e => e))))
        | (go_at_call 11; (with_reducible refine (awake_t _).mono ?_); rintro e x1 ⟨rfl, f1⟩; (first | (replace hL := hL.drew.frm f1; replace hF := hF.drew.trans f1 (fun _ _ e => e); replace hB := hB.drew.frm f1 (fun e => e)) | (replace hL := hL.frm f1; replace hF := hF.trans f1 (fun _ _ e => e); replace hB := hB.frm f1 (fun e => e)))))
    go_wp2
    go_ret
    exact ⟨rfl, hF⟩
end
end Go.Proofs.Ytchmaecakjeceaa
