/- LinkBounds and LinkArrives return true. -/
import Derived.Test.YtchmaecakjeceaaW11
import Derived.Test.YtchmaecakjeceaaW12
import Derived.Test.YtchmaecakjeceaaW13
namespace Go.Proofs.Ytchmaecakjeceaa
open Go.RowKit

section
variable {d0 d1 v0 v1 ls sd : Int} {A : Option Addr} {n c B : Nat} {cs : List Chg} {dir at_ m : Int} {w : World} {x y : Int} {p : Bool}
theorem rarrive_b (hL : LC w A n B cs) (H : Hid (arrT d0 d1 v0 v1 ls sd cs dir at_ m = x)) (H2 : Hid (arrB d0 d1 v0 v1 ls sd cs dir at_ m = p)) :
    Calls Try.prog 23 #[.agg #[.int .i64 d0, .int .i64 d1, .int .i64 v0, .int .i64 v1, .int .i64 ls, .int .u64 sd, .slice A n c], .int .i64 dir, .int .i64 at_, .int .i64 m] w fun e w' => e = .returned (.tuple #[.int .i64 x, .bool p]) ∧ Frm w w' NoB := by
  have k := rarrive_t d0 d1 v0 v1 ls sd A n c B cs dir at_ m w hL
  rw [H.out, H2.out] at k
  exact k
theorem rbounds_b (hL : LC w A n B cs) (H : Hid (bLo d0 d1 v0 v1 ls cs dir = x)) (H2 : Hid (bHi d0 d1 v0 v1 ls cs dir = y)) :
    Calls Try.prog 21 #[.agg #[.int .i64 d0, .int .i64 d1, .int .i64 v0, .int .i64 v1, .int .i64 ls, .int .u64 sd, .slice A n c], .int .i64 dir] w fun e w' => e = .returned (.agg #[.int .i64 x, .int .i64 y]) ∧ Frm w w' NoB := by
  have k := rbounds_t d0 d1 v0 v1 ls sd A n c B cs dir w hL
  rw [H.out, H2.out] at k
  exact k
end

section
variable (d0 d1 v0 v1 ls sd : Int) (A : Option Addr) (n c B : Nat) (cs : List Chg) (dir m : Int) (w : World)
set_option maxHeartbeats 4000000 in
theorem linkBounds_walk (_ws : (Lit.int .u64 sd).wf = true) (_w1 : (Lit.int .i64 dir).wf = true) (_w2 : (Lit.int .i64 m).wf = true) (hL : (n : Int) ≤ 100 → LC w A n B cs) :
    Calls Try.prog 5 #[.agg #[.int .i64 d0, .int .i64 d1, .int .i64 v0, .int .i64 v1, .int .i64 ls, .int .u64 sd, .slice A n c], .int .i64 dir, .int .i64 m] w fun e w' => e = .returned (.bool true) ∧ Frm w w' NoB := by
  have hF : Frm w (w.alloc (.cells (LkCells d0 d1 v0 v1 ls sd A n c) 26)) NoB := (Frm.refl w _).alloc _
  have hB : Blk (w.alloc (.cells (LkCells d0 d1 v0 v1 ls sd A n c) 26)) w.heap.size 26 (LkCells d0 d1 v0 v1 ls sd A n c) := Blk.new _ _ _
  obtain ⟨p, hp⟩ : ∃ p, decide ((n : Int) ≤ 100) = p := ⟨_, rfl⟩
  obtain ⟨x, hx⟩ : ∃ e, noiseF d0 d1 v0 v1 ls sd cs dir m = e := ⟨_, rfl⟩
  obtain ⟨y, hy⟩ : ∃ e, bLo d0 d1 v0 v1 ls cs dir = e := ⟨_, rfl⟩
  obtain ⟨z, hz⟩ : ∃ e, bHi d0 d1 v0 v1 ls cs dir = e := ⟨_, rfl⟩
  have HP := Lib.hid hp
  have HX := Lib.hid hx
  have HY := Lib.hid hy
  have HZ := Lib.hid hz
  clear hp hx hy hz
  cases p
  · clear hL
    go_enter Try.func5, Try.ntmps5
    go_wp2_with (first
      | (go_at_call 10; (with_reducible refine (small_b HP _).mono ?_); rintro e x1 ⟨rfl, f1⟩; replace hF := hF.trans f1 (fun _ _ e => e); replace hB := hB.frm f1 (fun e => e); obtain ⟨_, _, _, _, _, _, _⟩ := lk_cells hB)
      | (go_at_call 11; (with_reducible refine (awake_t _).mono ?_); rintro e x1 ⟨rfl, f1⟩; replace hF := hF.trans f1 (fun _ _ e => e); replace hB := hB.frm f1 (fun e => e); obtain ⟨_, _, _, _, _, _, _⟩ := lk_cells hB))
    go_ret
    exact ⟨rfl, hF⟩
  · replace hL := (hL (of_decide_eq_true HP.out)).alloc (.cells (LkCells d0 d1 v0 v1 ls sd A n c) 26)
    go_enter Try.func5, Try.ntmps5
    go_wp2_with (first
      | (go_at_call 10; (with_reducible refine (small_b HP _).mono ?_); rintro e x1 ⟨rfl, f1⟩; replace hL := hL.frm f1; replace hF := hF.trans f1 (fun _ _ e => e); replace hB := hB.frm f1 (fun e => e); obtain ⟨_, _, _, _, _, _, _⟩ := lk_cells hB))
    go_region_held3 (fun w' => w'.cell? ⟨w.heap.size, 0, none⟩ = some (.int .i64 d0) ∧ w'.cell? ⟨w.heap.size, 1, none⟩ = some (.int .i64 d1) ∧ w'.cell? ⟨w.heap.size, 2, none⟩ = some (.int .i64 v0) ∧ w'.cell? ⟨w.heap.size, 3, none⟩ = some (.int .i64 v1) ∧ w'.cell? ⟨w.heap.size, 4, none⟩ = some (.int .i64 ls) ∧ w'.cell? ⟨w.heap.size, 5, none⟩ = some (.int .u64 sd) ∧ w'.cell? ⟨w.heap.size, 6, none⟩ = some (.slice A n c)) (first | go_keep | exact lk_cells hB)
      (first
        | (go_at_call 18; (with_reducible refine (noise_b (by first | exact hL | exact hL.drew) HX).mono ?_); rintro e x1 ⟨rfl, f1⟩; (first | (replace hL := hL.drew.frm f1; replace hF := hF.drew.trans f1 (fun _ _ e => e); replace hB := hB.drew.frm f1 (fun e => e)) | (replace hL := hL.frm f1; replace hF := hF.trans f1 (fun _ _ e => e); replace hB := hB.frm f1 (fun e => e))))
        | (go_at_call 19; (with_reducible refine (rnoise_b (by first | exact hL | exact hL.drew) HX).mono ?_); rintro e x1 ⟨rfl, f1⟩; (first | (replace hL := hL.drew.frm f1; replace hF := hF.drew.trans f1 (fun _ _ e => e); replace hB := hB.drew.frm f1 (fun e => e)) | (replace hL := hL.frm f1; replace hF := hF.trans f1 (fun _ _ e => e); replace hB := hB.frm f1 (fun e => e))))
        | (go_at_call 20; (with_reducible refine (bounds_b (by first | exact hL | exact hL.drew) HY HZ).mono ?_); rintro e x1 ⟨rfl, f1⟩; (first | (replace hL := hL.drew.frm f1; replace hF := hF.drew.trans f1 (fun _ _ e => e); replace hB := hB.drew.frm f1 (fun e => e)) | (replace hL := hL.frm f1; replace hF := hF.trans f1 (fun _ _ e => e); replace hB := hB.frm f1 (fun e => e))))
        | (go_at_call 21; (with_reducible refine (rbounds_b (by first | exact hL | exact hL.drew) HY HZ).mono ?_); rintro e x1 ⟨rfl, f1⟩; (first | (replace hL := hL.drew.frm f1; replace hF := hF.drew.trans f1 (fun _ _ e => e); replace hB := hB.drew.frm f1 (fun e => e)) | (replace hL := hL.frm f1; replace hF := hF.trans f1 (fun _ _ e => e); replace hB := hB.frm f1 (fun e => e))))
        | (go_at_call 11; (with_reducible refine (awake_t _).mono ?_); rintro e x1 ⟨rfl, f1⟩; (first | (replace hL := hL.drew.frm f1; replace hF := hF.drew.trans f1 (fun _ _ e => e); replace hB := hB.drew.frm f1 (fun e => e)) | (replace hL := hL.frm f1; replace hF := hF.trans f1 (fun _ _ e => e); replace hB := hB.frm f1 (fun e => e)))))
    go_wp2
    go_ret
    exact ⟨rfl, hF⟩

set_option maxHeartbeats 8000000 in
theorem linkArrives_walk (M : Option Addr) (nm cm : Nat) (zm : List Chg) (w : World) (_ws : (Lit.int .u64 sd).wf = true) (hL : (n : Int) ≤ 100 → LC w A n B cs) (hM : (nm : Int) ≤ 40 → LC w M nm B zm) :
    Calls Try.prog 6 #[.agg #[.int .i64 d0, .int .i64 d1, .int .i64 v0, .int .i64 v1, .int .i64 ls, .int .u64 sd, .slice A n c], .slice M nm cm] w fun e w' => e = .returned (.bool true) ∧ Frm w w' NoB := by
  have hF : Frm w (w.alloc (.cells (LkCells d0 d1 v0 v1 ls sd A n c) 26)) NoB := (Frm.refl w _).alloc _
  have hB : Blk (w.alloc (.cells (LkCells d0 d1 v0 v1 ls sd A n c) 26)) w.heap.size 26 (LkCells d0 d1 v0 v1 ls sd A n c) := Blk.new _ _ _
  obtain ⟨p, hp⟩ : ∃ p, decide ((n : Int) ≤ 100) = p := ⟨_, rfl⟩
  have HP := Lib.hid hp
  clear hp
  cases p
  · clear hL hM
    go_enter Try.func6, Try.ntmps6
    go_wp2_with (first
      | (go_at_call 10; (with_reducible refine (small_b HP _).mono ?_); rintro e x1 ⟨rfl, f1⟩; replace hF := hF.trans f1 (fun _ _ e => e); replace hB := hB.frm f1 (fun e => e); obtain ⟨_, _, _, _, _, _, _⟩ := lk_cells hB)
      | (go_at_call 11; (with_reducible refine (awake_t _).mono ?_); rintro e x1 ⟨rfl, f1⟩; replace hF := hF.trans f1 (fun _ _ e => e); replace hB := hB.frm f1 (fun e => e); obtain ⟨_, _, _, _, _, _, _⟩ := lk_cells hB))
    go_ret
    exact ⟨rfl, hF⟩
  by_cases h40 : (nm : Int) ≤ 40
  · replace hL := (hL (of_decide_eq_true HP.out)).alloc (.cells (LkCells d0 d1 v0 v1 ls sd A n c) 26)
    replace hM := (hM h40).alloc (.cells (LkCells d0 d1 v0 v1 ls sd A n c) 26)
    go_enter Try.func6, Try.ntmps6
    go_wp2_with (first
      | (go_at_call 10; (with_reducible refine (small_b HP _).mono ?_); rintro e x1 ⟨rfl, f1⟩; replace hL := hL.frm f1; replace hM := hM.frm f1; replace hF := hF.trans f1 (fun _ _ e => e); replace hB := hB.frm f1 (fun e => e)))
    go_loopw [5, 6, 7, 8, 9, 25, 45] (fun i _ _ _ _ _ _ wr => ∃ k : Nat, k ≤ nm ∧ i = .int .i64 k ∧ Blk wr w.heap.size 26 (LkCells d0 d1 v0 v1 ls sd A n c) ∧ LC wr A n B cs ∧ LC wr M nm B zm ∧ Frm w wr NoB) (fun i _ _ _ _ _ _ _ => nm - (intOf i).toNat)
    case atStart => exact ⟨0, Nat.zero_le _, rfl, hB, hL, hM, hF⟩
    case round =>
      clear hB hL hM hF
      obtain ⟨k, hk, rfl, hB, hL, hM, hF⟩ := hrel
      by_cases hlt : k < nm
      · obtain ⟨b, o, rfl, _, hcell⟩ := hM.hA.pos (by rw [hM.HN]; omega)
        obtain ⟨q1, q2, q3⟩ := hcell k (by rw [hM.HN]; omega)
        obtain ⟨x, hx⟩ : ∃ x, x = (zm.getD k Chg.z).at_ := ⟨_, rfl⟩
        obtain ⟨y, hy⟩ : ∃ y, y = (zm.getD k Chg.z).dir := ⟨_, rfl⟩
        obtain ⟨z, hz⟩ : ∃ z, z = (zm.getD k Chg.z).del := ⟨_, rfl⟩
        rw [← hx] at q1
        rw [← hy] at q2
        rw [← hz] at q3
        obtain ⟨t, ht⟩ : ∃ t, arrT d0 d1 v0 v1 ls sd cs x y z = t := ⟨_, rfl⟩
        obtain ⟨g, hg⟩ : ∃ t, arrB d0 d1 v0 v1 ls sd cs x y z = t := ⟨_, rfl⟩
        have HT := Lib.hid ht
        have HG := Lib.hid hg
        clear hx hy hz hcell ht hg
        have hk0 : (0 : Int) ≤ (k : Int) := Int.natCast_nonneg _
        have hk1 : (k : Int) < (nm : Int) := by omega
        have hbB := hL.hB
        go_wp2_with fail
        have hK := lk_cells hB
        go_region_held3 (fun w' => w'.cell? ⟨w.heap.size, 0, none⟩ = some (.int .i64 d0) ∧ w'.cell? ⟨w.heap.size, 1, none⟩ = some (.int .i64 d1) ∧ w'.cell? ⟨w.heap.size, 2, none⟩ = some (.int .i64 v0) ∧ w'.cell? ⟨w.heap.size, 3, none⟩ = some (.int .i64 v1) ∧ w'.cell? ⟨w.heap.size, 4, none⟩ = some (.int .i64 ls) ∧ w'.cell? ⟨w.heap.size, 5, none⟩ = some (.int .u64 sd) ∧ w'.cell? ⟨w.heap.size, 6, none⟩ = some (.slice A n c) ∧ w'.cell? ⟨b, o + k * 3, none⟩ = some (.int .i64 x) ∧ w'.cell? ⟨b, o + k * 3 + 1, none⟩ = some (.int .i64 y) ∧ w'.cell? ⟨b, o + k * 3 + 2, none⟩ = some (.int .i64 z)) (first | go_keep | exact ⟨hK.1, hK.2.1, hK.2.2.1, hK.2.2.2.1, hK.2.2.2.2.1, hK.2.2.2.2.2.1, hK.2.2.2.2.2.2, q1, q2, q3⟩)
          (first | (go_at_call 22; (with_reducible refine (arrive_b (by exact hL.drew) HT HG).mono ?_); rintro e x2 ⟨rfl, f1⟩; replace q1 := (f1.cell (p := ⟨b, o + k * 3, none⟩) (by simp; omega) (fun e => e)).trans q1; replace q2 := (f1.cell (p := ⟨b, o + k * 3 + 1, none⟩) (by simp; omega) (fun e => e)).trans q2; replace q3 := (f1.cell (p := ⟨b, o + k * 3 + 2, none⟩) (by simp; omega) (fun e => e)).trans q3; replace hL := hL.drew.frm f1; replace hM := hM.drew.frm f1; replace hF := hF.drew.trans f1 (fun _ _ e => e); replace hB := hB.drew.frm f1 (fun e => e); have hK := lk_cells hB))
        replace hbB := hL.hB
        go_wp2_with fail
        go_region_held3 (fun w' => w'.cell? ⟨w.heap.size, 0, none⟩ = some (.int .i64 d0) ∧ w'.cell? ⟨w.heap.size, 1, none⟩ = some (.int .i64 d1) ∧ w'.cell? ⟨w.heap.size, 2, none⟩ = some (.int .i64 v0) ∧ w'.cell? ⟨w.heap.size, 3, none⟩ = some (.int .i64 v1) ∧ w'.cell? ⟨w.heap.size, 4, none⟩ = some (.int .i64 ls) ∧ w'.cell? ⟨w.heap.size, 5, none⟩ = some (.int .u64 sd) ∧ w'.cell? ⟨w.heap.size, 6, none⟩ = some (.slice A n c) ∧ w'.cell? ⟨b, o + k * 3, none⟩ = some (.int .i64 x) ∧ w'.cell? ⟨b, o + k * 3 + 1, none⟩ = some (.int .i64 y) ∧ w'.cell? ⟨b, o + k * 3 + 2, none⟩ = some (.int .i64 z)) (first | go_keep | exact ⟨hK.1, hK.2.1, hK.2.2.1, hK.2.2.2.1, hK.2.2.2.2.1, hK.2.2.2.2.2.1, hK.2.2.2.2.2.2, q1, q2, q3⟩)
          (first | (go_at_call 23; (with_reducible refine (rarrive_b (by exact hL.drew) HT HG).mono ?_); rintro e x2 ⟨rfl, f1⟩; replace q1 := (f1.cell (p := ⟨b, o + k * 3, none⟩) (by simp; omega) (fun e => e)).trans q1; replace q2 := (f1.cell (p := ⟨b, o + k * 3 + 1, none⟩) (by simp; omega) (fun e => e)).trans q2; replace q3 := (f1.cell (p := ⟨b, o + k * 3 + 2, none⟩) (by simp; omega) (fun e => e)).trans q3; replace hL := hL.drew.frm f1; replace hM := hM.drew.frm f1; replace hF := hF.drew.trans f1 (fun _ _ e => e); replace hB := hB.drew.frm f1 (fun e => e); have hK := lk_cells hB))
        have e1 : (t != t) = false := bne_self_eq_false t
        have e2 : (g != g) = false := bne_self_eq_false g
        go_wp2
        go_roundw
        case rel => exact ⟨k + 1, by omega, by go_num, hB, hL, hM, hF⟩
        case measure => simp [intOf]; omega
      · have hkn : k = nm := by omega
        go_wp2_with (first
          | (go_at_call 11; (with_reducible refine (awake_t _).mono ?_); rintro e x1 ⟨rfl, f1⟩; replace hF := hF.trans f1 (fun _ _ e => e); replace hB := hB.frm f1 (fun e => e); obtain ⟨_, _, _, _, _, _, _⟩ := lk_cells hB))
        go_ret
        exact ⟨rfl, hF⟩
  · clear hL hM
    go_enter Try.func6, Try.ntmps6
    go_wp2_with (first
      | (go_at_call 10; (with_reducible refine (small_b HP _).mono ?_); rintro e x1 ⟨rfl, f1⟩; replace hF := hF.trans f1 (fun _ _ e => e); replace hB := hB.frm f1 (fun e => e); obtain ⟨_, _, _, _, _, _, _⟩ := lk_cells hB)
      | (go_at_call 11; (with_reducible refine (awake_t _).mono ?_); rintro e x1 ⟨rfl, f1⟩; replace hF := hF.trans f1 (fun _ _ e => e); replace hB := hB.frm f1 (fun e => e); obtain ⟨_, _, _, _, _, _, _⟩ := lk_cells hB))
    go_ret
    exact ⟨rfl, hF⟩
end
end Go.Proofs.Ytchmaecakjeceaa
